/- The operations on slices and structs as wholes, and calls: what the interpreter says of them is what the machine does. No condition. -/
import Derived.Test.YtcbpdhhipkdofaaFwOps2
namespace Go.Fw

section
variable {P : Program} {o : Oper} {st : St} {R : Type} {r : R}

/-! ### struct and slice literals -/
theorem fold_put : ∀ (l : List Value) (k off : Nat) (cells : Array Value), off + k + l.length ≤ cells.size →
    ((l.zipIdx k).foldl (fun cs p => cs.setIfInBounds (off + p.2) p.1) cells).toList = cells.toList.take (off + k) ++ l ++ cells.toList.drop (off + k + l.length)
  | [], k, off, cells, _ => by simp
  | v :: r, k, off, cells, h => by
    simp only [List.length_cons] at h
    rw [List.zipIdx_cons, List.foldl_cons, fold_put r (k + 1) off _ (by simp; omega)]
    have hlt : off + k < cells.toList.length := by simp; omega
    simp only [Array.toList_setIfInBounds, List.length_cons]
    rw [List.take_set, List.drop_set]
    have e1 : off + (k + 1) = off + k + 1 := by omega
    rw [e1, if_pos (by omega), List.take_add_one, List.set_append]
    have hl : (List.take (off + k) cells.toList).length = off + k := by simp; omega
    rw [if_neg (by omega), hl, Nat.sub_self]
    have hg : cells.toList[off + k]? = some cells.toList[off + k] := List.getElem?_eq_getElem hlt
    rw [hg]
    simp only [Option.toList_some, List.set_cons_zero, List.append_assoc, List.singleton_append]
    rw [show off + k + 1 + r.length = off + k + (r.length + 1) by omega]

theorem fill_rel {Γ : Ctx} {pl pl' : Nat → Option (Nat × Nat)} (hpl : ∀ i, pl i = pl' i) : ∀ (ps : List (Nat × List C)) (cs cs' : List C) (parts : List (Nat × Value)) (cells : Array Value),
    fillC pl ps cs = some cs' → All2 (fun p q => p.1 = q.1 ∧ All2 (cRel Γ) p.2 q.2.cells.toList) ps parts → All2 (cRel Γ) cs cells.toList →
    ∃ cells', Instr.fill pl' cells parts = some cells' ∧ All2 (cRel Γ) cs' cells'.toList
  | [], cs, cs', _, cells, h, .nil, hc => by
    cases h
    exact ⟨cells, rfl, hc⟩
  | (i, v) :: rest, cs, cs', (j, u) :: parts, cells, h, .cons ⟨hij, hv⟩ ht, hc => by
    simp only at hij hv
    subst hij
    simp only [fillC] at h
    split at h
    · rename_i off size hp
      cases hb : Nat.beq v.length size && Nat.ble (off + size) cs.length <;> rw [hb] at h <;> simp at h
      rw [Bool.and_eq_true] at hb
      have hs : v.length = size := Nat.eq_of_beq_eq_true hb.1
      have hle := Nat.le_of_ble_eq_true hb.2
      have hvl : v.length = u.cells.size := by simpa using hv.length
      have hcl : cs.length = cells.size := by simpa using hc.length
      simp only [Instr.fill, ← hpl, hp]
      have hno : (decide (u.cells.size ≠ size) || decide (off + u.cells.size > cells.size)) = false := by simp; omega
      have hno' : ¬ (decide (u.cells.size ≠ size) || decide (off + u.cells.size > cells.size)) = true := by rw [hno]; simp
      rw [if_neg (by simpa using hno')]
      refine fill_rel hpl rest _ cs' parts _ h ht ?_
      have hz : (Array.foldl (fun cs (x : Value × Nat) => cs.setIfInBounds (off + x.2) x.1) cells u.cells.zipIdx).toList = cells.toList.take off ++ u.cells.toList ++ cells.toList.drop (off + u.cells.toList.length) := by
        rw [← Array.foldl_toList, Array.toList_zipIdx]
        have := fold_put u.cells.toList 0 off cells (by simp; omega)
        simpa using this
      show All2 (cRel Γ) (putC cs off v) (Array.foldl (fun cs (x : Value × Nat) => cs.setIfInBounds (off + x.2) x.1) cells u.cells.zipIdx).toList
      rw [hz]
      unfold putC
      have := hv.length
      rw [this]
      exact ((hc.take off).append hv).append (hc.drop _)
    · cases h

theorem partsC_rel {w0 : W0} {w : World} {S : Nat → Prop} {m : Nat → Nat} {H : Nat → Value} {F : Nat → Nat → Prop} {a : Act} (hr : Rel w0 S m H F st a w) : ∀ (parts : List (Nat × Operand)) (ps : List (Nat × List C)),
    partsC st parts = some ps → All2 (fun p q => p.1 = q.1 ∧ All2 (cRel ⟨w.heap, S, m, H, F, st.loc⟩) p.2 q.2.cells.toList) ps (parts.map fun (i, x) => (i, a.eval x))
  | [], ps, h => by cases h; exact .nil
  | (i, x) :: r, ps, h => by
    simp only [partsC] at h
    split at h
    · rename_i cs l hc hl
      cases h
      exact .cons ⟨rfl, cells_rel hc (ev_rel hr x) hr.hdr⟩ (partsC_rel hr r l hl)
    · cases h

theorem placesT_some {E : Tabs} (tok : TabOK P E.T) : ∀ (fs : List Field) (pl : List (Nat × Nat)), placesT E (fs.map fun f => (f.offset, f.type)) = some pl →
    fs.mapM (fun f => (P.info? f.type).map fun i => (f.offset, i.size)) = some pl
  | [], pl, h => by cases h; rfl
  | f :: r, pl, h => by
    simp only [List.map_cons, placesT] at h
    split at h
    · rename_i tu l ht hl
      cases h
      obtain ⟨i, hi, hs, _⟩ := (tok _ _ ht).info
      simp [List.mapM_cons, hi, hs, placesT_some tok r l hl]
    · cases h

theorem ok_build_struct {E : Tabs} (tok : TabOK P E.T) {t : TypeId} {ti : TI} {parts : Array (Nat × Operand)} {ps : List (Nat × List C)} {fs : List (Nat × TypeId)} {pl : List (Nat × Nat)} {cs : List C} (ho : o.op = .build t parts)
    (ht : E.T t = some ti) (hu : ti.und = .struct fs) (hps : partsC st parts.toList = some ps) (hpl : placesT E fs = some pl) (hf : fillC (fun i => pl[i]?) ps ti.zero = some cs) :
    PureOK P o st (.v (.agg cs)) [] :=
  .val0 fun w0 S m H F a w hr => by
    have ok := tok t ti ht
    obtain ⟨d, hd, hud⟩ := ok.und
    rw [hu] at hud
    obtain ⟨l, rfl, hl⟩ := hud
    obtain ⟨i, hi, hs, _, z, hz, hza⟩ := ok.info
    have hrel := partsC_rel hr _ _ hps
    obtain ⟨cells', hfill, ha⟩ := fill_rel (pl' := fun i => pl.toArray[i]?) (fun i => by simp) ps ti.zero cs _ z.cells hf hrel (hza.imp fun _ _ h => h _)
    refine ⟨.agg cells', ?_, cells', rfl, ha⟩
    have hb : P.built t (parts.map fun (i, x) => (i, a.eval x)).toList = some cells' := by
      unfold Program.built
      rw [← hl] at hpl
      simp only [hi, hd, hz, placesT_some tok _ _ hpl]
      rw [Array.toList_map]
      exact hfill
    unfold execOp
    simp only [ho, Sem.run_bind, run_build w t _ _ hb, Result.andThen_ok, Sem.run_pure]

theorem ok_build_array {E : Tabs} (tok : TabOK P E.T) {t e : TypeId} {ti te : TI} {n : Nat} {parts : Array (Nat × Operand)} {ps : List (Nat × List C)} {cs : List C} (ho : o.op = .build t parts)
    (ht : E.T t = some ti) (hu : ti.und = .array n e) (he : E.T e = some te) (hps : partsC st parts.toList = some ps) (hf : fillC (fun i => some (i * te.size, te.size)) ps ti.zero = some cs) :
    PureOK P o st (.v (.agg cs)) [] :=
  .val0 fun w0 S m H F a w hr => by
    have ok := tok t ti ht
    obtain ⟨d, hd, hud⟩ := ok.und
    rw [hu] at hud
    cases hud
    obtain ⟨i, hi, hs, _, z, hz, hza⟩ := ok.info
    obtain ⟨ie, hie, hse, _⟩ := (tok e te he).info
    have hrel := partsC_rel hr _ _ hps
    obtain ⟨cells', hfill, ha⟩ := fill_rel (pl' := fun i => some (i * ie.size, ie.size)) (fun i => by rw [hse]) ps ti.zero cs _ z.cells hf hrel (hza.imp fun _ _ h => h _)
    refine ⟨.agg cells', ?_, cells', rfl, ha⟩
    have hb : P.built t (parts.map fun (i, x) => (i, a.eval x)).toList = some cells' := by
      unfold Program.built
      simp only [hi, hd, hz, hie]
      rw [Array.toList_map]
      exact hfill
    unfold execOp
    simp only [ho, Sem.run_bind, run_build w t _ _ hb, Result.andThen_ok, Sem.run_pure]

/-- The zero cells of a row. -/
theorem zeros_get {z : Array Value} {n i : Nat} (hz : i < n * z.size) : ((Array.range (n * z.size)).map (z[· % z.size]!)).toList[i]? = some z[i % z.size]! := by
  simp [hz]

theorem zeros_win {z : Array Value} {n i : Nat} (hi : i < n) : win ((Array.range (n * z.size)).map (z[· % z.size]!)) (i * z.size) z.size = z.toList := by
  apply List.ext_getElem?
  intro j
  unfold win
  rw [List.getElem?_take]
  split
  · rename_i hj
    have hlt : i * z.size + j < n * z.size := by
      have : (i + 1) * z.size ≤ n * z.size := Nat.mul_le_mul_right _ hi
      rw [Nat.add_mul, Nat.one_mul] at this
      omega
    rw [List.getElem?_drop, zeros_get hlt, Nat.mul_comm i, Nat.mul_add_mod, Nat.mod_eq_of_lt hj]
    simp [hj]
  · rename_i hj
    simp at hj
    simp [hj]

theorem zeros_list {z : Array Value} {n : Nat} : ((Array.range (n * z.size)).map (z[· % z.size]!)).toList = (List.replicate n z.toList).flatten := by
  induction n with
  | zero => simp
  | succ n ih =>
    apply List.ext_getElem?
    intro j
    rw [List.replicate_succ', List.flatten_append, List.flatten_singleton]
    have hl : ((List.replicate n z.toList).flatten).length = n * z.size := by simp
    rcases Nat.lt_or_ge j (n * z.size) with h | h
    · rw [List.getElem?_append_left (by omega), ← ih, zeros_get h, zeros_get (by rw [Nat.add_mul]; omega)]
    · rw [List.getElem?_append_right (by omega), hl]
      rcases Nat.lt_or_ge j ((n + 1) * z.size) with h2 | h2
      · rw [zeros_get h2]
        rw [Nat.add_mul, Nat.one_mul] at h2
        have e : j % z.size = j - n * z.size := by
          have e1 : j = z.size * n + (j - n * z.size) := by rw [Nat.mul_comm]; omega
          conv => lhs; rw [e1]
          rw [Nat.mul_add_mod, Nat.mod_eq_of_lt (by omega)]
        rw [e]
        have hlt : j - n * z.size < z.size := by omega
        simp [hlt]
      · have h3 := h2
        rw [Nat.add_mul, Nat.one_mul] at h3
        rw [List.getElem?_eq_none (by simp; exact h2), List.getElem?_eq_none (by simp; omega)]

theorem All2.flatten_replicate {α β : Type} {R : α → β → Prop} {l : List α} {m : List β} (h : All2 R l m) : ∀ n, All2 R (List.replicate n l).flatten (List.replicate n m).flatten
  | 0 => .nil
  | n + 1 => by
    rw [List.replicate_succ, List.replicate_succ, List.flatten_cons, List.flatten_cons]
    exact h.append (All2.flatten_replicate h n)

theorem elemsD_rel {Γ : Ctx} (hb : ∀ b k, Γ.loc[b]? = some k → blkRel Γ b k)
    (hd : ∀ b b' k k', Γ.loc[b]? = some k → Γ.loc[b']? = some k' → k.alive = true → k'.alive = true → b ≠ b' → ∀ c, Γ.F b c → ¬ Γ.F b' c) {τ : Ty} :
    ∀ (n : Nat) (cs : List C) (xs : List τ.D) (l : List Nat) (vs : List Value), elemsD Γ.loc τ n cs = some (xs, l) → l.Nodup → All2 (cRel Γ) cs vs →
      xs.length = n ∧ vs.length = n * τ.size ∧ (∀ b, b ∈ l → ∃ τ xs, Γ.loc[b]? = some (.row false τ xs)) ∧
      ∃ ls : Nat → List Nat, (∀ i x, xs[i]? = some x → Own Γ.h Γ.S τ x ((vs.drop (i * τ.size)).take τ.size) (rowsF Γ.F (ls i))) ∧ (∀ i b, b ∈ ls i → b ∈ l) ∧ (∀ i j b, b ∈ ls i → b ∈ ls j → i = j)
  | 0, [], xs, l, vs, h, _, ha => by
    cases h
    cases ha
    refine ⟨rfl, by simp, fun b hb => (by cases hb), fun _ => [], ?_, ?_, ?_⟩
    · intro i x hi; simp at hi
    · intro i b hb; cases hb
    · intro i j b hb; cases hb
  | 0, c :: cs, xs, l, vs, h, _, _ => by cases h
  | n + 1, cs, xs, l, vs, h, hn, ha => by
    simp only [elemsD] at h
    split at h
    · rename_i x l1 ys l2 hx hys
      cases h
      rw [List.nodup_append] at hn
      obtain ⟨o1, f1⟩ := ownD_rel hb hd τ _ _ _ _ hx hn.1 (ha.take τ.size)
      obtain ⟨e1, e2, f2, ls, o2, m2, d2⟩ := elemsD_rel hb hd n _ ys l2 _ hys hn.2.1 (ha.drop τ.size)
      have hlen := Own.length _ _ _ _ o1
      have hvl : vs.length = (n + 1) * τ.size := by
        rw [List.length_take] at hlen
        rw [List.length_drop] at e2
        rw [Nat.add_mul, Nat.one_mul]
        omega
      refine ⟨by simp [e1], hvl, fun b hb => (List.mem_append.1 hb).elim (f1 b) (f2 b), fun i => match i with | 0 => l1 | i + 1 => ls i, fun i y hi => ?_, fun i b hb => ?_, fun i j b hbi hbj => ?_⟩
      · cases i with
        | zero => simp at hi; subst hi; simpa using o1
        | succ i =>
          have := o2 i y (by simpa using hi)
          rw [List.drop_drop] at this
          rw [Nat.add_mul, Nat.one_mul, Nat.add_comm]
          exact this
      · cases i with
        | zero => exact List.mem_append.2 (.inl hb)
        | succ i => exact List.mem_append.2 (.inr (m2 i b hb))
      · cases i <;> cases j
        · rfl
        · exact absurd rfl (hn.2.2 b hbi b (m2 _ b hbj))
        · exact absurd rfl (hn.2.2 b hbj b (m2 _ b hbi))
        · rw [d2 _ _ b hbi hbj]
    · cases h

theorem ok_buildSlice {E : Tabs} (tok : TabOK P E.T) {t e : TypeId} {ti te : TI} {len : Nat} {parts : Array (Nat × Operand)} {ps : List (Nat × List C)} {cs : List C} {xs : List te.ty.D} (ho : o.op = .buildSlice t len parts)
    (ht : E.T t = some ti) (hu : ti.und = .slice e) (he : E.T e = some te) (hps : partsC st parts.toList = some ps) (hf : fillC (fun i => some (i * te.size, te.size)) ps (List.replicate len te.zero).flatten = some cs)
    (hx : elemsD st.loc te.ty len cs = some (xs, [])) (hb : (Nat.ble len 65536 && Nat.ble (len * te.size) 65536 && Nat.beq te.ty.size te.size && Nat.beq te.zero.length te.size) = true) :
    PureOK P o st (.v (.one (.sl (.row st.loc.length)))) [.row false te.ty xs] :=
  .newRow fun w0 S m H F a w hr => by
    rw [Bool.and_eq_true, Bool.and_eq_true, Bool.and_eq_true] at hb
    have hsm := Nat.le_of_ble_eq_true hb.1.1.2
    have hln := Nat.le_of_ble_eq_true hb.1.1.1
    have hsz : te.ty.size = te.size := Nat.eq_of_beq_eq_true hb.1.2
    have hzl : te.zero.length = te.size := Nat.eq_of_beq_eq_true hb.2
    obtain ⟨d, hd, hud⟩ := (tok t ti ht).und
    rw [hu] at hud
    cases hud
    obtain ⟨ie, hie, hse, _, z, hz, hza⟩ := (tok e te he).info
    have hzs : z.cells.size = te.size := by have : te.zero.length = z.cells.size := by simpa using hza.length
                                            omega
    have hrel := partsC_rel hr _ _ hps
    have hz0 : All2 (cRel ⟨w.heap, S, m, H, F, st.loc⟩) (List.replicate len te.zero).flatten ((Array.range (len * te.size)).map (z.cells[· % z.cells.size]!)).toList := by
      rw [← hzs, zeros_list]
      exact (hza.imp fun _ _ h => h _).flatten_replicate len
    obtain ⟨cells', hfill, ha⟩ := fill_rel (pl' := fun i => some (i * te.size, te.size)) (fun i => rfl) ps _ cs _ _ hf hrel hz0
    obtain ⟨e1, e2, _, ls, o2, m2, _⟩ := elemsD_rel (Γ := ⟨w.heap, S, m, H, F, st.loc⟩) hr.blk hr.disj len cs xs [] _ hx (by simp) ha
    have hcs : cells'.size = len * te.ty.size := by simpa using e2
    refine ⟨cells', e, len, ?_, by rw [hcs], by omega, ?_, fun i x hi => ?_⟩
    · unfold execOp
      have h24 : ¬ len * te.size > 2 ^ 24 := by omega
      simp only [ho, Instr.buildSlice, Sem.run_bind, run_underlying hd, Result.andThen_ok, (tok e te he).sizeOf, if_neg h24, Sem.run_ite, Sem.run_pure]
      rw [e1]
      by_cases h0 : len * te.size = 0
      · have hr0 : Array.range (len * te.size) = #[] := by rw [h0]; rfl
        have hf' : Instr.fill (fun i => some (i * te.size, te.size)) #[] (Array.map (fun x => (x.1, a.eval x.2)) parts).toList = some cells' := by
          rw [hr0] at hfill
          rw [Array.toList_map]
          simpa using hfill
        simp only [if_pos h0, Result.andThen_ok, hr0, Array.map_empty, hf', Sem.run_bind, run_newRow, Sem.run_pure]
      · have hf' : Instr.fill (fun i => some (i * te.size, te.size)) (Array.map (fun x => z.cells[x % z.cells.size]!) (Array.range (len * te.size))) (Array.map (fun x => (x.1, a.eval x.2)) parts).toList = some cells' := by
          rw [Array.toList_map]
          exact hfill
        have hzv : (zeroValue e).run P w = .ok z w := by simp [zeroValue, typeInfo, hie, hz]
        simp only [if_neg h0, Sem.run_bind, hzv, Result.andThen_ok, Sem.run_pure, hf', run_newRow]
    · simp only [maxLen]; omega
    · have := o2 i x hi
      have hnil : ls i = [] := by
        cases hli : ls i with
        | nil => rfl
        | cons b r => have := m2 i b (by rw [hli]; simp); cases this
      rw [hnil] at this
      exact Own.mono (fun _ h => h) (fun _ _ => rfl) _ _ _ _ _ (fun c ⟨b, hb, _⟩ => by cases hb) (fun _ _ => rfl) this

end
end Go.Fw
