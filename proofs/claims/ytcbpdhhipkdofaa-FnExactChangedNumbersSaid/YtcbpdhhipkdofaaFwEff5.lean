/- A slice literal whose elements take rows along. No condition. -/
import Derived.Test.YtcbpdhhipkdofaaFwEff4
namespace Go.Fw
section
variable {P : Program} {E : Tabs} {R : Type} {res : R} {o : Oper} {st : St}

theorem ok_build_deep (tok : TabOK P E.T) {t : TypeId} {len : Nat} {parts : Array (Nat × Operand)} {f : St → Option R} (ho : o.op = .buildSlice t len parts) (hdst : dstOk st.n o.dst = true)
    (h : effBuild E o.dst t len parts st f = some res) : ∃ st', f st' = some res ∧ st'.n = st.n ∧ SeqOK P o st st' := by
  unfold effBuild at h
  split at h
  · rename_i e size bytes zero tty ps ht hps
    split at h
    · rename_i te he
      split at h
      · rename_i cs hf
        split at h
        · rename_i ys ms hx
          obtain ⟨hb, h⟩ := bif_some h
          unfold growRow at h
          obtain ⟨hcond, h⟩ := bif_some h
          simp only [Bool.and_eq_true] at hcond
          obtain ⟨hnd, hlen⟩ := hcond
          have hnd' := (nodupB_iff _).1 hnd
          have hbm : st.loc.length ∉ ms := (List.nodup_cons.1 hnd').1
          rw [Bool.and_eq_true, Bool.and_eq_true, Bool.and_eq_true] at hb
          have hsm := Nat.le_of_ble_eq_true hb.1.1.2
          have hln := Nat.le_of_ble_eq_true hb.1.1.1
          have hsz : te.ty.size = te.size := Nat.eq_of_beq_eq_true hb.1.2
          have hzl : te.zero.length = te.size := Nat.eq_of_beq_eq_true hb.2
          have hkn : (({ st with loc := st.loc ++ [Blk.row false te.ty []] }.kill (st.loc.length :: ms) []).setBlk st.loc.length (.row false te.ty ([] ++ ys)) : St).n = st.n := by
            show ({ st with loc := st.loc ++ [Blk.row false te.ty []] }.kill (st.loc.length :: ms) [] : St).n = st.n
            rw [St.kill_eq]
          refine ⟨_, h, hkn, ?_⟩
          intro w0 S m H F a w hr next Q hnext
          obtain ⟨d, hd, hud⟩ := (tok t _ ht).und
          replace hud : d = .slice e := hud
          subst hud
          obtain ⟨ie, hie, hse, _, z, hz, hza⟩ := (tok e te he).info
          have hzs : z.cells.size = te.size := by
            have : te.zero.length = z.cells.size := by simpa using hza.length
            omega
          have hrel := partsC_rel hr _ _ hps
          have hz0 : All2 (cRel ⟨w.heap, S, m, H, F, st.loc⟩) (List.replicate len te.zero).flatten ((Array.range (len * te.size)).map (z.cells[· % z.cells.size]!)).toList := by
            rw [← hzs, zeros_list]
            exact (hza.imp fun _ _ h => h _).flatten_replicate len
          obtain ⟨cells', hfill, ha⟩ := fill_rel (pl' := fun i => some (i * te.size, te.size)) (fun i => rfl) ps _ cs _ _ hf hrel hz0
          obtain ⟨e1, e2, f2, ls, o2, m2, d2⟩ := elemsD_rel (Γ := ⟨w.heap, S, m, H, F, st.loc⟩) hr.blk hr.disj len cs ys ms _ hx (List.nodup_cons.1 hnd').2 ha
          have hcs : cells'.size = len * te.ty.size := by simpa using e2
          have hexec : (execOp a.eval o).run P w = .ok (.value (.slice (some ⟨w.heap.size, 0, none⟩) ys.length len)) (w.alloc (.cells cells' e)) := by
            unfold execOp
            have h24 : ¬ len * te.size > 2 ^ 24 := by omega
            simp only [ho, Instr.buildSlice, Sem.run_bind, run_underlying hd, Result.andThen_ok, (tok e te he).sizeOf, if_neg h24, Sem.run_ite, Sem.run_pure]
            rw [e1]
            by_cases h0 : len * te.size = 0
            · have hr0 : Array.range (len * te.size) = #[] := by rw [h0]; rfl
              have hf' : Instr.fill (fun i => some (i * te.size, te.size)) #[] (Array.map (fun x => (x.1, a.eval x.2)) parts).toList = some cells' := by
                rw [hr0] at hfill
                rw [Array.toList_map]
                simpa using hfill
              simp only [if_pos h0, Result.andThen_ok, hr0, Array.map_empty, hf', Sem.run_bind, run_newRow, Sem.run_pure]
            · have hf' : Instr.fill (fun i => some (i * te.size, te.size)) (Array.map (fun x => z.cells[x % z.cells.size]!) (Array.range (len * te.size))) (Array.map (fun x => (x.1, a.eval x.2)) parts).toList = some cells' := by
                rw [Array.toList_map]
                exact hfill
              have hzv : (zeroValue e).run P w = .ok z w := by simp [zeroValue, typeInfo, hie, hz]
              simp only [if_neg h0, Sem.run_bind, hzv, Result.andThen_ok, Sem.run_pure, hf', run_newRow]
          have hr1 := hr.addRow te.ty none
          have hms : ∀ d, d ∈ ms → ∃ τ xs, (st.loc ++ [Blk.row false te.ty []])[d]? = some (.row false τ xs) := fun d hd => by
            obtain ⟨τ2, xs2, hl2⟩ := f2 d hd
            exact ⟨τ2, xs2, by rw [getElem?_append_lt (List.getElem?_eq_some_iff.1 hl2).1]; exact hl2⟩
          have hrows : ∀ c, rowsF F ms c → c < w.heap.size := by
            rintro c ⟨d, hd, hc⟩
            obtain ⟨τ2, xs2, hl2⟩ := f2 d hd
            exact hr.F_lt d _ hl2 rfl c hc
          have hlsF : ∀ i c, rowsF F (ls i) c → rowsF F ms c := fun i c ⟨b, h1, h2⟩ => ⟨b, m2 i b h1, h2⟩
          have hgrown : Grown S (fun b => if b = st.loc.length then (fun _ => False) else F b) st.loc.length ms te.ty ([] ++ ys) w (w.alloc (.cells cells' e)) (.slice (some ⟨w.heap.size, 0, none⟩) ys.length len) w.heap.size := by
            refine ⟨(Ext.alloc w _).size, fun c hc _ => (Ext.alloc w _).heap c hc, rfl, rfl, rfl, by simp only [List.nil_append, e1, maxLen]; omega, some ⟨w.heap.size, 0, none⟩, len, by simp, by simp [e1], by simp only [maxLen]; omega,
              .inr ⟨cells', e, rfl, heap_alloc_new w _, hcs, .inr (Nat.le_refl _), by rw [World.alloc_size]; omega, fun i => rowsF F (ls i), ?_, ?_, ?_⟩⟩
            · rintro i j c ⟨b, h1, h2⟩ ⟨b', h3, h4⟩
              obtain ⟨_, _, l1⟩ := f2 b (m2 i b h1)
              obtain ⟨_, _, l2⟩ := f2 b' (m2 j b' h3)
              by_cases hbb : b = b'
              · subst hbb; exact d2 i j b h1 h3
              · exact absurd h4 (hr.disj b b' _ _ l1 l2 rfl rfl hbb c h2)
            · intro i c hc
              have h1 := hlsF i c hc
              have := hrows c h1
              refine ⟨.inr ?_, by omega⟩
              obtain ⟨b, h2, h3⟩ := h1
              obtain ⟨_, _, l1⟩ := f2 b h2
              have hbl' : b < st.loc.length := (List.getElem?_eq_some_iff.1 l1).1
              have hne : b ≠ st.loc.length := by omega
              exact ⟨b, h2, by show (if b = st.loc.length then (fun _ => False) else F b) c; rw [if_neg hne]; exact h3⟩
            · intro i x hi
              rw [List.nil_append] at hi
              have := o2 i x hi
              refine Own.mono (fun _ h => h) (fun c hc => (Ext.alloc w _).heap c (hr.S_lt c hc)) _ _ _ _ _ (fun _ h => h) (fun c hc => (Ext.alloc w _).heap c (hrows c (hlsF i c hc))) this
          have hbl : (st.loc ++ [Blk.row false te.ty []])[st.loc.length]? = some (.row false te.ty []) := by simp
          have hg := hr1.growRow (b := st.loc.length) hbl hms hgrown
          unfold Oper.wp
          rw [hexec, Oper.upon_value]
          refine hnext _ _ _ _ _ (hg.bind (bs := []) (Ext.refl _) (by rw [hkn]; exact hdst) ⟨fun _ _ => ⟨rfl, rfl, rfl⟩, ?_, fun j k hj => by simp at hj, fun j j' _ hj => by simp at hj, fun j τ xs hj => by simp at hj⟩)
          rw [List.append_nil]
          refine ⟨by simp, false, te.ty, [] ++ ys, ?_⟩
          have hblt : st.loc.length < ({ st with loc := st.loc ++ [Blk.row false te.ty []] }.kill (st.loc.length :: ms) [] : St).loc.length := by
            rw [St.kill_eq]
            have := kill_loc_get (st.loc.length :: ms) [] (st.loc ++ [Blk.row false te.ty []]) st.loc.length
            rw [hbl] at this
            exact (List.getElem?_eq_some_iff.1 this).1
          exact List.getElem?_set_self hblt
        · cases h
      · cases h
    · cases h
  · cases h
end
end Go.Fw
