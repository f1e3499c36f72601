/- A slice variable that is nil becomes an empty row. No condition. -/
import Derived.Test.YtcbpdhhipkdofaaFwLoop
namespace Go.Fw
section
variable {w0 : W0} {w : World} {S : Nat → Prop} {m : Nat → Nat} {H : Nat → Value} {F : Nat → Nat → Prop} {st : St} {a : Act}

theorem kill_nil_map (l : List Blk) : (deadAt [] 0 l).map (Blk.kill [] []) = l := by
  rw [deadAt_nil]
  induction l with
  | nil => rfl
  | cons b r ih => rw [List.map_cons, Blk.kill_nil, ih]

theorem St.mat1_n (st : St) (l : Mat) : (st.mat1 l).n = st.n := by
  cases l with
  | slot t τ => simp only [St.mat1]; split <;> rfl
  | cell b j τ =>
    simp only [St.mat1]
    split
    · split <;> rfl
    · rfl

theorem St.mat_n (l : List Mat) : ∀ st : St, (st.mat l).n = st.n := by
  induction l with
  | nil => intro st; rfl
  | cons x r ih => intro st; exact (ih _).trans (St.mat1_n st x)

theorem Rel.mat1 (h : Rel w0 S m H F st a w) (l : Mat) : ∃ H' F', Rel w0 S m H' F' (st.mat1 l) a w := by
  cases l with
  | slot t τ =>
    simp only [St.mat1]
    split
    · rename_i hl
      have h0 := h.fr t
      rw [hl] at h0
      obtain ⟨base, e⟩ := h0
      have h1 := h.addRow τ base
      refine ⟨_, _, { h1 with fr := fun u => ?_ }⟩
      show fvRel _ (look ((t, .v (.one (.sl (.row st.loc.length)))) :: st.fr) u) _
      simp only [look]
      cases hb : Nat.beq t u
      · exact h1.fr u
      · have := Nat.eq_of_beq_eq_true hb
        subst this
        refine ⟨?_, false, τ, [], by simp⟩
        rw [e]; simp
    · exact ⟨H, F, h⟩
  | cell b j τ =>
    simp only [St.mat1]
    split
    · rename_i cs hb
      split
      · rename_i hj
        obtain ⟨arr, te, hg, ha, hF⟩ := h.blk b _ hb
        obtain ⟨v, hv, base, e⟩ := ha.get j _ hj
        have h1 := h.addRow τ base
        have hblt : b < st.loc.length := (List.getElem?_eq_some_iff.1 hb).1
        have hb1 : (st.loc ++ [Blk.row false τ []])[b]? = some (.box cs) := by rw [getElem?_append_lt hblt]; exact hb
        have hne : b ≠ st.loc.length := by omega
        have key := Rel.upd (w' := w) (m' := m) (H' := (fun b => if b = st.loc.length then .slice base 0 0 else H b)) (F' := (fun b => if b = st.loc.length then (fun _ => False) else F b)) h1 (ds := []) (ns := []) (b := b)
          (k' := .box (cs.set j (.sl (.row st.loc.length)))) hb1 rfl (.inl (by simp)) (fun _ _ => ⟨rfl, rfl, rfl⟩) (Nat.le_refl _) (fun _ _ _ => rfl) rfl rfl rfl
          (fun c hc => ⟨.inl hc, h1.F_lt b _ hb1 rfl c hc⟩) (fun _ => ⟨.inl ⟨cs, _, rfl, rfl⟩, rfl⟩) (fun _ _ pin τ xs e => by cases e) (fun τ xs e => by cases e)
          (by
            rw [kill_nil_map]
            obtain ⟨arr', te', hg', ha', hF'⟩ := h1.blk b _ hb1
            have harr : arr' = arr := by
              have : (some (Obj.cells arr' te' (0, 0)) : Option Obj) = some (.cells arr te (0, 0)) := hg'.symm.trans hg
              simp only [Option.some.injEq, Obj.cells.injEq] at this
              exact this.1
            subst harr
            refine ⟨arr', te', hg', ?_, hF'⟩
            have M : Moves ⟨w.heap, S, m, (fun b => if b = st.loc.length then .slice base 0 0 else H b), (fun b => if b = st.loc.length then (fun _ => False) else F b), st.loc ++ [Blk.row false τ []]⟩
                ⟨w.heap, S, m, (fun b => if b = st.loc.length then .slice base 0 0 else H b), (fun b => if b = st.loc.length then (fun _ => False) else F b), (st.loc ++ [Blk.row false τ []]).set b (Blk.box (cs.set j (.sl (.row st.loc.length))))⟩ [] [] := by
              refine ⟨fun _ h => h, fun _ _ => rfl, fun b' cs' _ hb' => ⟨rfl, ?_⟩, fun b' pin τ2 xs2 _ hb' => ⟨rfl, rfl, pin, xs2, ?_, rfl⟩, fun b' pin τ2 xs2 _ _ _ _ => ⟨fun _ h => h, fun _ _ => rfl⟩⟩
              · by_cases e : b' = b
                · subst e
                  exact ⟨_, List.getElem?_set_self (by simp; omega)⟩
                · exact ⟨cs', by show (List.set _ b _)[b']? = _; rw [List.getElem?_set_ne (Ne.symm e)]; exact hb'⟩
              · have e : b' ≠ b := fun e => by
                  subst e
                  replace hb' : (st.loc ++ [Blk.row false τ []])[b']? = _ := hb'
                  rw [hb1] at hb'; cases hb'
                show (List.set _ b _)[b']? = _
                rw [List.getElem?_set_ne (Ne.symm e)]; exact hb'
            have hv' : arr'.toList.set j v = arr'.toList := by
              apply List.ext_getElem?
              intro i
              by_cases e : i = j
              · subst e
                rw [List.getElem?_set_self (List.getElem?_eq_some_iff.1 hv).1]; exact hv.symm
              · rw [List.getElem?_set_ne (Ne.symm e)]
            rw [← hv']
            refine All2.set (ha'.imp fun _ _ h => h.same M) j _ v ?_
            refine ⟨?_, false, τ, [], ?_⟩
            · rw [e]; simp
            · show (List.set _ b _)[st.loc.length]? = _
              rw [List.getElem?_set_ne (by omega)]
              simp)
        rw [killFr_nil, kill_nil_map] at key
        refine ⟨(fun b => if b = st.loc.length then .slice base 0 0 else H b), (fun b => if b = st.loc.length then (fun _ => False) else F b), ?_⟩
        have eset : (st.loc ++ [Blk.row false τ []]).set b (Blk.box (cs.set j (.sl (.row st.loc.length)))) = st.loc.set b (Blk.box (cs.set j (.sl (.row st.loc.length)))) ++ [Blk.row false τ []] := List.set_append_left _ _ hblt
        rw [← eset]
        exact key
      · exact ⟨H, F, h⟩
    · exact ⟨H, F, h⟩

theorem Rel.mat (l : List Mat) : ∀ (H : Nat → Value) (F : Nat → Nat → Prop) (st : St), Rel w0 S m H F st a w → ∃ H' F', Rel w0 S m H' F' (st.mat l) a w := by
  induction l with
  | nil => intro H F st h; exact ⟨H, F, h⟩
  | cons x r ih =>
    intro H F st h
    obtain ⟨H', F', h'⟩ := h.mat1 x
    exact ih H' F' _ h'
end
end Go.Fw
