/- The library's sort of integers, and what makes runs one, by the kit's contracts. No condition. -/
import Derived.Test.YtmfmdoppjcaedaaFwD
import Derived.Shelf.SortG.Plain
import Derived.Shelf.SortG.SortNone
import Derived.Sort.OwnSortedInts
import Derived.Shelf.SlicesG.CompactI
namespace Go.Fw
open Go.Proofs Go.Shelf Go.Lib

theorem sortI_len (l : List Int) : (sortI l).length = l.length := List.length_mergeSort l
def m_compactInt64 : FX := { ps := [.own false (.slice (.int .i64))], res := .one false (.slice (.int .i64)), take := true, run := fun x => g_compactInt64 x.1 }
def m_sortInt64 : FX := { ps := [.own false (.slice (.int .i64))], res := .tup [], run := fun x => g_sortInt64 x.1 }

theorem win_one {arr : Array Value} {i : Nat} {v : Value} (h : arr.toList[i]? = some v) : win arr (i * 1) 1 = [v] := by
  obtain ⟨hi, e⟩ := List.getElem?_eq_some_iff.1 h
  unfold win
  rw [Nat.mul_one, List.drop_eq_getElem_cons hi, e]
  rfl
theorem one_win {arr : Array Value} {i : Nat} {v : Value} (h : win arr (i * 1) 1 = [v]) : arr.toList[i]? = some v := by
  unfold win at h
  rw [Nat.mul_one] at h
  have h1 : ((arr.toList.drop i).take 1)[0]? = some v := by rw [h]; rfl
  rw [List.getElem?_take, if_pos (by omega), List.getElem?_drop, Nat.add_zero] at h1
  exact h1

theorem FxOK.sort {P : Program} {ρ : Ren} (L : SlLaysN.n53 P ρ) {f : FuncId} (hρ : ρ.f 53 = f) {fn : Func} (hf : P.funcs[f]? = some fn) (hb : fn.body.isNone = false) (hn : (fn.name == "runtime.NumGoroutine") = false) : FxOK P f m_sortInt64 := by
  subst hρ
  intro κ w args ds out F T hF hT hargs hrun
  obtain ⟨v, vr, F1, F2, rfl, ⟨hown, hone⟩, hvr, h1, h2, h3⟩ := hargs
  replace hvr : vr = [] := hvr
  subst hvr
  obtain ⟨zs, ⟨⟩⟩ := ds
  obtain ⟨hm, base, cap, ev, hlc, hcm, hblk⟩ := hown
  replace ev : [v] = [.slice base zs.length cap] := ev
  have ev : v = .slice base zs.length cap := by simpa using ev
  subst ev
  obtain ⟨hle, hrun⟩ := bif_some hrun
  have hle := Nat.le_of_ble_eq_true hle
  cases hrun
  replace hle : zs.length ≤ 4294967296 := hle
  by_cases h0 : zs = []
  · subst h0
    refine Lands.of_calls hf hb hn ((AnyG.slices_Sort_int_none L base cap w).mono ?_)
    rintro e w' ⟨rfl, rfl⟩
    have es : sortI [] = [] := by simp [sortI]
    rw [es]
    refine ⟨_, rfl, Nat.le_refl _, fun _ _ _ => rfl, rfl, rfl, rfl, fun _ => False, F, ⟨#[], [], rfl, ⟨rfl, rfl⟩, rfl⟩, fun _ => ?_, fun c hc => hc.elim, fun c hc => ⟨.inl hc, hF c hc⟩, fun c hc => hc.elim⟩
    exact ⟨_, _, F1, F2, rfl, ⟨⟨hm, base, cap, rfl, hlc, hcm, hblk⟩, hone⟩, rfl, h1, h2, h3⟩
  · have hpos : 0 < zs.length := List.length_pos_iff.2 h0
    have hcap : cap ≠ 0 := by
      replace hlc : zs.length ≤ cap := hlc
      omega
    obtain ⟨c, arr, te, rfl, hFc, hg, hsz, G, g1, g2, hx⟩ := hblk.resolve_left hcap
    have hcell : ∀ i x, zs[i]? = some x → arr.toList[i]? = some (Value.int .i64 x) ∧ inR .i64 x := fun i x hi => by
      obtain ⟨e1, e2⟩ := hx i x hi
      exact ⟨one_win e1, e2⟩
    have htake : arr.toList.take zs.length = zs.map (Value.int .i64) := by
      apply List.ext_getElem?
      intro j
      by_cases hj : j < zs.length
      · rw [List.getElem?_take, if_pos hj, List.getElem?_map, List.getElem?_eq_getElem hj]
        exact (hcell j _ (List.getElem?_eq_getElem hj)).1
      · rw [List.getElem?_take, if_neg hj, List.getElem?_eq_none (by simp; omega)]
    have hclt : c < w.heap.size := (Array.getElem?_eq_some_iff.1 hg).1
    refine Lands.of_calls hf hb hn ((AnyG.slices_Sort_int L c 0 cap zs w (holds_of_blockI hg htake) hclt (by omega)).mono ?_)
    rintro e w' ⟨rfl, n, os, rfl⟩
    have hgr := grownBy_sortedI (w := w) (g := c) (n := n) (os := os) (sortI zs).toArray
    have hheap := heap_sortedI (w := w) (n := n) (os := os) (sortI zs).toArray hg
    have hsz' : zs.length ≤ arr.size := by
      have : arr.size = cap * 1 := hsz
      rw [this, Nat.mul_one]; exact hlc
    have htk := take_putCellsI arr (sortI zs) (by rw [sortI_len]; exact hsz')
    obtain ⟨q1, q2, q3, q4, q5⟩ := hgr
    have hFc' : F c := h1 c hFc
    refine ⟨_, rfl, ?_, ?_, ?_, ?_, ?_, fun _ => False, F, ⟨#[], [], rfl, ⟨rfl, rfl⟩, rfl⟩, fun _ => ?_, fun c hc => hc.elim, fun d hd => ⟨.inl hd, ?_⟩, fun c hc => hc.elim⟩
    · exact q4
    · exact fun d hd hnF => q5 d hd fun e => hnF (by cases e; exact hFc')
    · first | exact q1 | exact q2 | exact q3
    · first | exact q1 | exact q2 | exact q3
    · first | exact q1 | exact q2 | exact q3
    · refine ⟨_, _, F1, F2, rfl, ⟨⟨?_, some ⟨c, 0, none⟩, cap, ?_, ?_, hcm, .inr ⟨c, _, te, rfl, hFc, hheap, ?_, G, g1, g2, fun i x hi => ?_⟩⟩, hone⟩, rfl, h1, h2, h3⟩
      · show (sortI zs).length ≤ maxLen
        rw [sortI_len]; exact hm
      · show _ = [Value.slice _ (sortI zs).length cap]
        rw [sortI_len]
      · show (sortI zs).length ≤ cap
        rw [sortI_len]; exact hlc
      · simpa [«Sort».putCells] using hsz
      · replace hi : (sortI zs)[i]? = some x := hi
        have hilt := (List.getElem?_eq_some_iff.1 hi).1
        have hmem : x ∈ zs := by
          have := List.mem_of_getElem? hi
          unfold sortI at this
          exact List.mem_mergeSort.1 this
        obtain ⟨j, hj⟩ := List.getElem?_of_mem hmem
        refine ⟨win_one ?_, (hcell j x hj).2⟩
        have h5 := congrArg (fun l : List Value => l[i]?) htk
        simp only [List.getElem?_take, if_pos hilt, List.getElem?_map, hi, Option.map_some] at h5
        exact h5
    · exact Nat.lt_of_lt_of_le (hF d hd) q4

theorem compactI_length : ∀ zs : List Int, (compactI zs).length ≤ zs.length
  | [] => Nat.le_refl _
  | [x] => Nat.le_refl _
  | x :: y :: r => by
    have ih := compactI_length (y :: r)
    unfold compactI
    split
    · simp at ih ⊢; omega
    · simp at ih ⊢; omega

theorem compactI_mem : ∀ (zs : List Int) (x : Int), x ∈ compactI zs → x ∈ zs
  | [], _, h => h
  | [x], _, h => h
  | x :: y :: r, z, h => by
    have ih := compactI_mem (y :: r) z
    unfold compactI at h
    split at h
    · exact .tail _ (ih h)
    · rcases List.mem_cons.1 h with h | h
      · exact h ▸ .head _
      · exact .tail _ (ih h)

/-- What is kept of a row, from its second place on. -/
def keptI : Int → List Int → List Int
  | _, [] => []
  | x, y :: r => if y = x then keptI y r else y :: keptI y r

theorem keptI_cons (x y : Int) (r : List Int) : keptI x (y :: r) = if y = x then keptI y r else y :: keptI y r := rfl
theorem compactI_kept : ∀ (x : Int) (r : List Int), compactI (x :: r) = x :: keptI x r ∧ (∀ y, compactI (y :: x :: r) = if y = x then compactI (x :: r) else y :: compactI (x :: r))
  | x, [] => ⟨rfl, fun y => rfl⟩
  | x, z :: r => by
    obtain ⟨h1, h2⟩ := compactI_kept z r
    refine ⟨?_, fun y => by rw [compactI]⟩
    rw [h2 x, h1, keptI_cons]
    by_cases e : x = z
    · subst e; simp
    · rw [if_neg e, if_neg (fun h => e h.symm)]

theorem kept_from (d : Array Int) : ∀ (n m : Nat), m + n = d.size → 0 < m → ((List.range' m n).filter (keeps d)).map (d[·]!) = keptI d[m - 1]! (d.toList.drop m)
  | 0, m, h, _ => by
    have : d.toList.drop m = [] := List.drop_eq_nil_of_le (by simp; omega)
    rw [this]; rfl
  | n + 1, m, h, hm => by
    have ih := kept_from d n (m + 1) (by omega) (by omega)
    have hlt : m < d.size := by omega
    have hd : d.toList.drop m = d[m]! :: d.toList.drop (m + 1) := by
      rw [List.drop_eq_getElem_cons (by simpa using hlt)]
      simp [getElem!_pos d m hlt]
    rw [List.range'_succ, List.filter_cons, hd, keptI_cons]
    rw [Nat.add_sub_cancel] at ih
    by_cases e : d[m]! = d[m - 1]!
    · rw [keeps_neg hm e, if_pos e]
      simpa using ih
    · rw [keeps_pos e, if_neg e]
      simp only [if_true, List.map_cons]
      rw [ih]

theorem compactI_eq (zs : List Int) : Lib.compact zs = compactI zs := by
  cases zs with
  | nil => rfl
  | cons x r =>
    rw [(compactI_kept x r).1]
    unfold Lib.compact compactUpTo
    rw [List.range_eq_range', List.length_cons, List.range'_succ, List.filter_cons, keeps_lt_one _ 0 (by omega)]
    have := kept_from (x :: r).toArray r.length 1 (by simp; omega) (by omega)
    simp only [if_true, List.map_cons]
    rw [Nat.zero_add, this]
    simp

theorem FxOK.compact {P : Program} {ρ : Ren} (L : SlLaysN.n43 P ρ) {f : FuncId} (hρ : ρ.f 43 = f) {fn : Func} (hf : P.funcs[f]? = some fn) (hb : fn.body.isNone = false) (hn : (fn.name == "runtime.NumGoroutine") = false) : FxOK P f m_compactInt64 := by
  subst hρ
  intro κ w args ds out F T hF hT hargs hrun
  obtain ⟨v, vr, F1, F2, rfl, ⟨hown, hone⟩, hvr, h1, h2, h3⟩ := hargs
  replace hvr : vr = [] := hvr
  subst hvr
  obtain ⟨zs, ⟨⟩⟩ := ds
  obtain ⟨hm, base, cap, ev, hlc, hcm, hblk⟩ := hown
  replace ev : [v] = [.slice base zs.length cap] := ev
  have ev : v = .slice base zs.length cap := by simpa using ev
  subst ev
  obtain ⟨hle, hrun⟩ := bif_some hrun
  have hle := Nat.le_of_ble_eq_true hle
  cases hrun
  replace hle : zs.length ≤ 4294967296 := hle
  by_cases h0 : zs = []
  · subst h0
    refine Lands.of_calls hf hb hn ((AnyG.slices_Compact_int_empty L base cap w).mono ?_)
    rintro e w' ⟨rfl, rfl⟩
    refine ⟨_, rfl, Nat.le_refl _, fun _ _ _ => rfl, rfl, rfl, rfl, F1, fun _ => False, ⟨[.slice base 0 cap], nofun, fun _ => rfl, ?_⟩, fun h => (nomatch h), fun c hc => ⟨.inl (h1 c hc), hF c (h1 c hc)⟩, fun c hc => hc.elim, fun _ _ h => h⟩
    exact ⟨hm, base, cap, rfl, hlc, hcm, hblk⟩
  · have hpos : 0 < zs.length := List.length_pos_iff.2 h0
    have hcap : cap ≠ 0 := by
      replace hlc : zs.length ≤ cap := hlc
      omega
    obtain ⟨c, arr, te, rfl, hFc, hg, hsz, G, g1, g2, hx⟩ := hblk.resolve_left hcap
    have hcell : ∀ i x, zs[i]? = some x → arr.toList[i]? = some (Value.int .i64 x) ∧ inR .i64 x := fun i x hi => by
      obtain ⟨e1, e2⟩ := hx i x hi
      exact ⟨one_win e1, e2⟩
    have htake : arr.toList.take zs.length = zs.map (Value.int .i64) := by
      apply List.ext_getElem?
      intro j
      by_cases hj : j < zs.length
      · rw [List.getElem?_take, if_pos hj, List.getElem?_map, List.getElem?_eq_getElem hj]
        exact (hcell j _ (List.getElem?_eq_getElem hj)).1
      · rw [List.getElem?_take, if_neg hj, List.getElem?_eq_none (by simp; omega)]
    have hclt : c < w.heap.size := (Array.getElem?_eq_some_iff.1 hg).1
    replace hlc : zs.length ≤ cap := hlc
    have hce := compactI_eq zs
    have hk := compactI_length zs
    refine Lands.of_calls hf hb hn ((AnyG.slices_Compact_int L c 0 cap zs w (holds_of_blockI hg htake) (by omega) hlc).mono ?_)
    rintro e w' ⟨rfl, n, e'⟩
    rw [hce] at e' ⊢
    generalize hys : compactI zs ++ List.replicate (zs.length - (compactI zs).length) 0 = ys at e'
    have hyl : ys.length = zs.length := by rw [← hys, List.length_append, List.length_replicate]; omega
    have e2 : w' = «Sort».grow («Sort».putRow (Value.int .i64) («Sort».ahead w n) c 0 ys.toArray) #[] := by rw [e', «Sort».grow_empty]
    clear e'
    subst e2
    have hgr := grownBy_sortedI (w := w) (g := c) (n := n) (os := #[]) ys.toArray
    have hheap := heap_sortedI (w := w) (n := n) (os := #[]) ys.toArray hg
    have hsz' : zs.length ≤ arr.size := by
      have : arr.size = cap * 1 := hsz
      rw [this, Nat.mul_one]; exact hlc
    have htk := take_putCellsI arr ys (by rw [hyl]; exact hsz')
    obtain ⟨q1, q2, q3, q4, q5⟩ := hgr
    have hFc' : F c := h1 c hFc
    refine ⟨_, rfl, ?_, ?_, ?_, ?_, ?_, F1, fun _ => False, ⟨[.slice (some ⟨c, 0, none⟩) (compactI zs).length cap], nofun, fun _ => rfl, ?_⟩, fun h => (nomatch h), fun d hd => ⟨.inl (h1 d hd), ?_⟩, fun c hc => hc.elim, fun _ _ h => h⟩
    · exact q4
    · exact fun d hd hnF => q5 d hd fun e => hnF (by cases e; exact hFc')
    · first | exact q1 | exact q2 | exact q3
    · first | exact q1 | exact q2 | exact q3
    · first | exact q1 | exact q2 | exact q3
    · refine ⟨?_, some ⟨c, 0, none⟩, cap, rfl, ?_, hcm, .inr ⟨c, _, te, rfl, hFc, hheap, ?_, G, g1, g2, fun i x hi => ?_⟩⟩
      · exact Nat.le_trans hk hm
      · exact Nat.le_trans hk hlc
      · simpa [«Sort».putCells] using hsz
      · replace hi : (compactI zs)[i]? = some x := hi
        have hilt := (List.getElem?_eq_some_iff.1 hi).1
        have hmem : x ∈ zs := compactI_mem zs x (List.mem_of_getElem? hi)
        obtain ⟨j, hj⟩ := List.getElem?_of_mem hmem
        refine ⟨win_one ?_, (hcell j x hj).2⟩
        have h5 := congrArg (fun l : List Value => l[i]?) htk
        have hy : ys[i]? = some x := by rw [← hys, List.getElem?_append_left hilt]; exact hi
        have hil : i < ys.length := by omega
        simp only [List.getElem?_take, if_pos hil, List.getElem?_map, hy, Option.map_some] at h5
        exact h5
    · exact Nat.lt_of_lt_of_le (hF d (h1 d hd)) q4
end Go.Fw
