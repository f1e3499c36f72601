/- A row that grows: append, and literals whose elements take rows along. No condition. -/
import Derived.Test.YtcbpdhhipkdofaaFwEff2
import Derived.Deep.AppendSrc
namespace Go.Fw

theorem flat_own {h h' : Heap} {T S : Nat → Prop} : (τ : Ty) → (x : τ.D) → (cs : List Value) → hasSl τ = false → Rep h T τ x cs → Own h' S τ x cs (fun _ => False)
  | .int _, _, _, _, r => r
  | .bool, _, _, _, r => r
  | .flt _, _, _, _, r => r
  | .str, _, _, _, r => r
  | .unit, _, _, _, r => r
  | .fn _, _, _, _, r => r
  | .pair a b, x, cs, hs, r => by
    simp only [hasSl, Bool.or_eq_false_iff] at hs
    obtain ⟨c1, c2, rfl, r1, r2⟩ := r
    exact ⟨c1, c2, fun _ => False, fun _ => False, rfl, flat_own a _ _ hs.1 r1, flat_own b _ _ hs.2 r2, fun _ h => h, fun _ h => h, fun _ h => h.elim⟩

section
variable {P : Program} {w0 : W0} {w w' : World} {S : Nat → Prop} {m : Nat → Nat} {H : Nat → Value} {F : Nat → Nat → Prop} {st : St} {a : Act}

/-- A row that is nil may be laid behind the blocks. -/
theorem Rel.addRow (h : Rel w0 S m H F st a w) (τ : Ty) (base : Option Addr) :
    Rel w0 S m (fun b => if b = st.loc.length then .slice base 0 0 else H b) (fun b => if b = st.loc.length then (fun _ => False) else F b) { st with loc := st.loc ++ [Blk.row false τ []] } a w := by
  have hf : Fresh S m H F st.loc w w .undef (.bool true) [Blk.row false τ []] m (fun b => if b = st.loc.length then .slice base 0 0 else H b) (fun b => if b = st.loc.length then (fun _ => False) else F b) := by
    refine ⟨fun b hb => by simp [Nat.ne_of_lt hb], trivial, fun j k hj => ?_, fun j j' hne hj hj' => ?_, fun j σ xs hj => ?_⟩
    · cases j with
      | succ j => simp at hj
      | zero =>
        simp at hj
        subst hj
        simp only [Nat.add_zero]
        refine ⟨⟨⟨by simp, base, 0, by simp, Nat.le_refl _, by simp, .inl rfl⟩, base, 0, by simp, .inl rfl⟩, fun c hc => ?_⟩
        simp at hc
    · simp at hj hj'; omega
    · cases j with
      | zero => simp at hj
      | succ j => simp at hj
  have := h.bind (Ext.refl w) (dst := none) rfl hf
  exact this

/-- What is asked of the world in which a row has grown. -/
structure Grown (S : Nat → Prop) (F : Nat → Nat → Prop) (b : Nat) (ms : List Nat) (τ : Ty) (zs : List τ.D) (w w' : World) (v' : Value) (g' : Nat) : Prop where
  size : w.heap.size ≤ w'.heap.size
  heap : ∀ c, c < w.heap.size → ¬ F b c → w'.heap[c]? = w.heap[c]?
  os : w'.os = w.os
  tape : w'.tape = w.tape
  output : w'.output = w.output
  len : zs.length ≤ maxLen
  val : ∃ base' cap', v' = .slice base' zs.length cap' ∧ zs.length ≤ cap' ∧ cap' ≤ maxLen ∧ (cap' = 0 ∨ ∃ arr' te', base' = some ⟨g', 0, none⟩ ∧ w'.heap[g']? = some (.cells arr' te' (0, 0)) ∧ arr'.size = cap' * τ.size ∧
    (F b g' ∨ w.heap.size ≤ g') ∧ g' < w'.heap.size ∧ ∃ G : Nat → Nat → Prop, (∀ i j c, G i c → G j c → i = j) ∧ (∀ i c, G i c → (F b c ∨ rowsF F ms c) ∧ c ≠ g') ∧
      ∀ i x, zs[i]? = some x → Own w'.heap S τ x (win arr' (i * τ.size) τ.size) (G i))

theorem Rel.growRow (h : Rel w0 S m H F st a w) {b : Nat} {pin : Bool} {τ : Ty} {xs zs : List τ.D} {ms : List Nat} {v' : Value} {g' : Nat} (hl : st.loc[b]? = some (.row pin τ xs)) (hms : ∀ d, d ∈ ms → ∃ τ xs, st.loc[d]? = some (.row false τ xs))
    (hg : Grown S F b ms τ zs w w' v' g') :
    Rel w0 S (fun b' => if b' = b then g' else m b') (fun b' => if b' = b then v' else H b') (fun b' => if b' = b then (fun c => F b c ∨ rowsF F ms c ∨ (c = g' ∧ c < w'.heap.size ∧ w.heap.size ≤ c)) else F b')
      ((st.kill (b :: ms) []).setBlk b (.row false τ zs)) a w' := by
  have hrows : ∀ d, rowsF F ms d → ∃ e k, e ∈ b :: ms ∧ st.loc[e]? = some k ∧ k.alive = true ∧ F e d := by
    rintro d ⟨e, he, hd⟩
    obtain ⟨τ2, xs2, hl2⟩ := hms e he
    exact ⟨e, _, by simp [he], hl2, rfl, hd⟩
  have hkill : (st.kill (b :: ms) []).setBlk b (.row false τ zs) = { st with fr := killFr (b :: ms) [] st.fr, loc := ((deadAt (b :: ms) 0 st.loc).map (Blk.kill (b :: ms) [])).set b (.row false τ zs) } := by
    rw [St.kill_eq]; rfl
  rw [hkill]
  obtain ⟨base', cap', rfl, hle, hcm, hblk⟩ := hg.val
  refine Rel.upd h (ds := b :: ms) (ns := []) (k' := .row false τ zs) hl rfl (.inr (by simp)) (fun b' hne => by simp [hne]) hg.size hg.heap hg.os hg.tape hg.output ?_ (fun hb => absurd (by simp) hb) (fun hb => absurd (by simp) hb) (fun τ2 xs2 e => by cases e) ?_
  · intro c hc
    simp only [if_true] at hc
    rcases hc with hc | hc | ⟨rfl, h1, h2⟩
    · exact ⟨.inl hc, Nat.lt_of_lt_of_le (h.F_lt b _ hl rfl c hc) hg.size⟩
    · obtain ⟨e, k, he, hle', ha, hd⟩ := hrows c hc
      exact ⟨.inr (.inl ⟨e, k, he, hle', ha, hd⟩), Nat.lt_of_lt_of_le (h.F_lt e k hle' ha c hd) hg.size⟩
    · exact ⟨.inr (.inr h2), h1⟩
  · refine ⟨?_, base', cap', by simp, ?_⟩
    · simp only [if_true]
      refine ⟨hg.len, base', cap', rfl, hle, hcm, hblk.imp id ?_⟩
      rintro ⟨arr', te', rfl, hgh, hsz, hor, hlt, G, g1, g2, hx⟩
      refine ⟨g', arr', te', rfl, ?_, hgh, hsz, G, g1, fun i c hc => ⟨?_, (g2 i c hc).2⟩, hx⟩
      · rcases hor with h1 | h1
        · exact .inl h1
        · exact .inr (.inr ⟨rfl, hlt, h1⟩)
      · rcases (g2 i c hc).1 with h1 | h1
        · exact .inl h1
        · exact .inr (.inl h1)
    · simp only [if_true]
      rcases hblk with h0 | ⟨_, _, e, _⟩
      · exact .inl h0
      · exact .inr e
end

/-! ### append, in the machine's own terms -/
section append
variable {P : Program} {w : World}

theorem run_first {sz m : Nat} {b : Option Addr} {len cap : Nat} {news : List Value} (hl : news.length = m * sz) (h : m = 0 ∨ ∃ c off arr te fz, b = some ⟨c, off, none⟩ ∧ w.heap[c]? = some (.cells arr te fz) ∧ off + m * sz ≤ arr.size ∧ news = win arr off (m * sz)) :
    (Builtin.firstCells sz m (.slice b len cap)).run P w = .ok news.toArray w := by
  rcases h with rfl | ⟨c, off, arr, te, fz, rfl, hg, hb, rfl⟩
  · have : news = [] := List.eq_nil_of_length_eq_zero (by simpa using hl)
    subst this
    cases b <;> simp [Builtin.firstCells, loadCells, loadCellsFrom]
  · simp only [Builtin.firstCells]
    exact run_loadCells_win hg hb

/-- What append leaves. olds: the cells that were there; news: those that come. -/
theorem run_append {t e : TypeId} {ti te : TI} (ok : TIOK P t ti) (hu : ti.und = .slice e) (oke : TIOK P e te) (ty : TypeId) {base : Option Addr} {n cap : Nat} {olds : List Value} {g : Nat} (hnc : n ≤ cap) (hol : olds.length = n * te.size)
    (hs : (cap = 0) ∨ ∃ arr te', base = some ⟨g, 0, none⟩ ∧ w.heap[g]? = some (.cells arr te' (0, 0)) ∧ arr.size = cap * te.size ∧ olds = win arr 0 (n * te.size)) (hcm : cap ≤ maxLen)
    {b : Option Addr} {m c2 : Nat} {news : List Value} (hl : news.length = m * te.size) (hn : m = 0 ∨ ∃ c off arr te' fz, b = some ⟨c, off, none⟩ ∧ w.heap[c]? = some (.cells arr te' fz) ∧ off + m * te.size ≤ arr.size ∧ news = win arr off (m * te.size))
    (h1 : ∀ u, u ∈ news → u.oneCell' = true) (hlen : n + m ≤ 4294967296) (hby : te.bytes < 32768) (hzl : te.zero.length = te.size) :
    ∃ v' w', (Builtin.append_ #[t, t] ty #[.slice base n cap, .slice b m c2]).run P w = .ok v' w' ∧ w.heap.size ≤ w'.heap.size ∧ (∀ c, c < w.heap.size → c ≠ g ∨ cap = 0 → w'.heap[c]? = w.heap[c]?) ∧ w'.os = w.os ∧ w'.tape = w.tape ∧ w'.output = w.output ∧
      ∃ base' cap', v' = .slice base' (n + m) cap' ∧ n + m ≤ cap' ∧ cap' ≤ maxLen ∧ (cap' = 0 ∨ ∃ g' arr' te', base' = some ⟨g', 0, none⟩ ∧ w'.heap[g']? = some (.cells arr' te' (0, 0)) ∧ arr'.size = cap' * te.size ∧
        arr'.toList.take ((n + m) * te.size) = olds ++ news ∧ ((g' = g ∧ cap ≠ 0) ∨ g' = w.heap.size ∧ w.heap.size < w'.heap.size)) := by
  obtain ⟨d, hd, hud⟩ := ok.und
  rw [hu] at hud
  cases hud
  obtain ⟨i, hi, hsi, hbi, z, hz, hza⟩ := oke.info
  have hzs : z.cells.size = te.zero.length := by simpa using hza.length.symm
  have hfn := run_first (P := P) (len := m) (cap := c2) hl hn
  have hfo : (Builtin.firstCells te.size n (.slice base n cap)).run P w = .ok olds.toArray w := by
    refine run_first hol ?_
    rcases hs with h0 | ⟨arr, te', rfl, hg, hsz, rfl⟩
    · exact .inl (by omega)
    · refine .inr ⟨g, 0, arr, te', (0, 0), rfl, hg, ?_, rfl⟩
      rw [hsz, Nat.zero_add]; exact Nat.mul_le_mul_right _ hnc
  by_cases hroom : n + m ≤ cap
  · by_cases h0 : cap = 0
    · have hn0 : n = 0 := by omega
      have hm0 : m = 0 := by omega
      subst h0 hn0 hm0
      have hnews : news = [] := List.eq_nil_of_length_eq_zero (by simpa using hl)
      subst hnews
      refine ⟨.slice base 0 0, w, ?_, Nat.le_refl _, fun _ _ _ => rfl, rfl, rfl, rfl, base, 0, rfl, Nat.le_refl _, by simp, .inl rfl⟩
      cases base with
      | none => simp [Builtin.append_, run_underlying hd, sizeOf, typeInfo, hi, Builtin.lenOf, hsi, hfn]
      | some ad => simp [Builtin.append_, run_underlying hd, sizeOf, typeInfo, hi, Builtin.lenOf, hsi, hfn, storeCells]
    · obtain ⟨arr, te', rfl, hg, hsz, rfl⟩ := hs.resolve_left h0
      have hfit : n * te.size + news.length ≤ arr.size := by rw [hl, hsz, ← Nat.add_mul]; exact Nat.mul_le_mul_right _ hroom
      have hst := run_storeCells_at (P := P) g (n * te.size) te' news 0 arr w hg (by simpa using hfit) h1
      rw [Nat.add_zero] at hst
      obtain ⟨w1, hw1, hw1e⟩ : ∃ w1, (storeCells ⟨g, n * te.size, none⟩ news).run P w = .ok () w1 ∧ w1 = w.setRow g (arr.toList.take (n * te.size) ++ news ++ arr.toList.drop (n * te.size + news.length)).toArray := ⟨_, hst, rfl⟩
      refine ⟨.slice (some ⟨g, 0, none⟩) (n + m) cap, w1, ?_, ?_, fun c _ hc => ?_, by rw [hw1e]; rfl, by rw [hw1e]; rfl, by rw [hw1e]; rfl, some ⟨g, 0, none⟩, cap, rfl, hroom, hcm, ?_⟩
      · simp [Builtin.append_, run_underlying hd, sizeOf, typeInfo, hi, Builtin.lenOf, hsi, hroom, hfn, Addr.add_plain, hw1]
      · rw [hw1e]; exact Nat.le_of_eq (size_setRow w g _).symm
      · rcases hc with hc | hc
        · rw [hw1e]; exact setRow_other w g c _ hc
        · exact absurd hc h0
      · by_cases hc0 : cap = 0
        · exact .inl hc0
        · refine .inr ⟨g, _, te', rfl, by rw [hw1e]; exact setRow_heap w g arr _ te' _ hg, ?_, ?_, .inl ⟨rfl, hc0⟩⟩
          · simp only [List.size_toArray, List.length_append, List.length_take, List.length_drop, Array.length_toList]
            omega
          · have e : win arr 0 (n * te.size) = arr.toList.take (n * te.size) := by simp [win]
            rw [e]
            have hlen' : (arr.toList.take (n * te.size) ++ news).length = (n + m) * te.size := by
              rw [List.length_append, List.length_take, hl, Nat.add_mul]
              simp; omega
            rw [← hlen']
            exact List.take_left
  · have h63 : ((n + m : Nat) : Int) ≤ 9223372036854775807 := by omega
    have hb47 : (n + m) * i.bytes ≤ 140737488355328 := by
      rw [hbi]
      have : (n + m) * te.bytes ≤ 4294967296 * 32768 := Nat.mul_le_mul hlen (by omega)
      omega
    have hge := grownCap_ge w (n + m) cap e
    have hml : n + m ≤ maxLen := by simp only [maxLen]; omega
    have hcm' : grownCap w (n + m) cap e ≤ maxLen := grownCap_le_maxLen w (n + m) cap e hml
    have hfit := growslice_fits (need := n + m) (old := cap) (by omega) hb47
    have hsrc : Src P i.size t (.slice b m c2) m news w := by
      refine ⟨.inl ⟨e, hd⟩, fun _ => rfl, by rw [hsi]; exact hfn, by rw [hsi]; exact run_first (w := w.drew) hl hn, by rw [hsi]; exact hl, h1⟩
    have hold : (Builtin.firstCells i.size n (.slice base n cap)).run P w.drew = .ok olds.toArray w.drew := by
      rw [hsi]
      refine run_first (w := w.drew) hol ?_
      rcases hs with h0 | ⟨arr, te', rfl, hg, hsz, rfl⟩
      · exact .inl (by omega)
      · refine .inr ⟨g, 0, arr, te', (0, 0), rfl, hg, ?_, rfl⟩
        rw [hsz, Nat.zero_add]; exact Nat.mul_le_mul_right _ hnc
    have hrun := run_append_grow_src (P := P) w t t ty e i z hd hi hz base n cap olds hold (.slice b m c2) m news hsrc (by omega) h63 hfit
    have hsize : ((olds ++ news).toArray ++ Builtin.zeroCells z.cells (grownCap w (n + m) cap e - (n + m))).size = grownCap w (n + m) cap e * te.size := by
      rw [Array.size_append, size_zeroCells, hzs, hzl]
      simp only [List.size_toArray, List.length_append, hol, hl]
      rw [← Nat.add_mul, ← Nat.add_mul]
      congr 1
      omega
    refine ⟨_, _, hrun, ?_, fun c hc _ => ?_, rfl, rfl, rfl, some ⟨w.heap.size, 0, none⟩, grownCap w (n + m) cap e, rfl, hge, hcm', .inr ⟨w.heap.size, _, e, rfl, ?_, hsize, ?_, .inr ⟨rfl, ?_⟩⟩⟩
    · show w.heap.size ≤ (w.heap.push _).size
      simp
    · exact heap_alloc_old w.drew _ hc
    · show (w.heap.push _)[w.heap.size]? = _
      simp
    · have e1 : (olds ++ news).length = (n + m) * te.size := by rw [List.length_append, hol, hl, Nat.add_mul]
      rw [Array.toList_append, ← e1]
      exact List.take_left
    · show w.heap.size < (w.heap.push _).size
      simp

end append
end Go.Fw
