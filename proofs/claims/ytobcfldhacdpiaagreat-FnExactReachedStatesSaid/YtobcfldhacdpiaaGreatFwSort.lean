/- The library's sort of integers, by the kit's contract. No condition. -/
import Derived.Test.YtobcfldhacdpiaaGreatFwD
import Derived.Shelf.SortG.Plain
import Derived.Shelf.SortG.SortNone
import Derived.Sort.OwnSortedInts
namespace Go.Fw
open Go.Proofs Go.Shelf

theorem sortI_len (l : List Int) : (sortI l).length = l.length := List.length_mergeSort l
def m_sortInt64 : FX := { ps := [.own false (.slice (.int .i64))], res := .tup [], run := fun x => g_sortInt64 x.1 }

theorem win_one {arr : Array Value} {i : Nat} {v : Value} (h : arr.toList[i]? = some v) : win arr (i * 1) 1 = [v] := by
  obtain ⟨hi, e⟩ := List.getElem?_eq_some_iff.1 h
  unfold win
  rw [Nat.mul_one, List.drop_eq_getElem_cons hi, e]
  rfl
theorem one_win {arr : Array Value} {i : Nat} {v : Value} (h : win arr (i * 1) 1 = [v]) : arr.toList[i]? = some v := by
  unfold win at h
  rw [Nat.mul_one] at h
  have h1 : ((arr.toList.drop i).take 1)[0]? = some v := by rw [h]; rfl
  rw [List.getElem?_take, if_pos (by omega), List.getElem?_drop, Nat.add_zero] at h1
  exact h1

theorem FxOK.sort {P : Program} {ρ : Ren} (L : SlLaysN.n53 P ρ) {f : FuncId} (hρ : ρ.f 53 = f) {fn : Func} (hf : P.funcs[f]? = some fn) (hb : fn.body.isNone = false) (hn : (fn.name == "runtime.NumGoroutine") = false) : FxOK P f m_sortInt64 := by
  subst hρ
  intro w args ds out F hF hargs hrun
  obtain ⟨v, vr, F1, F2, rfl, ⟨hown, hone⟩, hvr, h1, h2, h3⟩ := hargs
  replace hvr : vr = [] := hvr
  subst hvr
  obtain ⟨zs, ⟨⟩⟩ := ds
  obtain ⟨hm, base, cap, ev, hlc, hcm, hblk⟩ := hown
  replace ev : [v] = [.slice base zs.length cap] := ev
  have ev : v = .slice base zs.length cap := by simpa using ev
  subst ev
  obtain ⟨hle, hrun⟩ := bif_some hrun
  have hle := Nat.le_of_ble_eq_true hle
  cases hrun
  replace hle : zs.length ≤ 4294967296 := hle
  by_cases h0 : zs = []
  · subst h0
    refine Lands.of_calls hf hb hn ((AnyG.slices_Sort_int_none L base cap w).mono ?_)
    rintro e w' ⟨rfl, rfl⟩
    have es : sortI [] = [] := by simp [sortI]
    rw [es]
    refine ⟨_, rfl, Nat.le_refl _, fun _ _ _ => rfl, rfl, rfl, rfl, fun _ => False, F, ⟨#[], [], rfl, ⟨rfl, rfl⟩, rfl⟩, ?_, fun c hc => hc.elim, fun c hc => ⟨.inl hc, hF c hc⟩, fun c hc => hc.elim⟩
    exact ⟨_, _, F1, F2, rfl, ⟨⟨hm, base, cap, rfl, hlc, hcm, hblk⟩, hone⟩, rfl, h1, h2, h3⟩
  · have hpos : 0 < zs.length := List.length_pos_iff.2 h0
    have hcap : cap ≠ 0 := by
      replace hlc : zs.length ≤ cap := hlc
      omega
    obtain ⟨c, arr, te, rfl, hFc, hg, hsz, G, g1, g2, hx⟩ := hblk.resolve_left hcap
    have hcell : ∀ i x, zs[i]? = some x → arr.toList[i]? = some (Value.int .i64 x) ∧ inR .i64 x := fun i x hi => by
      obtain ⟨e1, e2⟩ := hx i x hi
      exact ⟨one_win e1, e2⟩
    have htake : arr.toList.take zs.length = zs.map (Value.int .i64) := by
      apply List.ext_getElem?
      intro j
      by_cases hj : j < zs.length
      · rw [List.getElem?_take, if_pos hj, List.getElem?_map, List.getElem?_eq_getElem hj]
        exact (hcell j _ (List.getElem?_eq_getElem hj)).1
      · rw [List.getElem?_take, if_neg hj, List.getElem?_eq_none (by simp; omega)]
    have hclt : c < w.heap.size := (Array.getElem?_eq_some_iff.1 hg).1
    refine Lands.of_calls hf hb hn ((AnyG.slices_Sort_int L c 0 cap zs w (holds_of_blockI hg htake) hclt (by omega)).mono ?_)
    rintro e w' ⟨rfl, n, os, rfl⟩
    have hgr := grownBy_sortedI (w := w) (g := c) (n := n) (os := os) (sortI zs).toArray
    have hheap := heap_sortedI (w := w) (n := n) (os := os) (sortI zs).toArray hg
    have hsz' : zs.length ≤ arr.size := by
      have : arr.size = cap * 1 := hsz
      rw [this, Nat.mul_one]; exact hlc
    have htk := take_putCellsI arr (sortI zs) (by rw [sortI_len]; exact hsz')
    obtain ⟨q1, q2, q3, q4, q5⟩ := hgr
    have hFc' : F c := h1 c hFc
    refine ⟨_, rfl, ?_, ?_, ?_, ?_, ?_, fun _ => False, F, ⟨#[], [], rfl, ⟨rfl, rfl⟩, rfl⟩, ?_, fun c hc => hc.elim, fun d hd => ⟨.inl hd, ?_⟩, fun c hc => hc.elim⟩
    · exact q4
    · exact fun d hd hnF => q5 d hd fun e => hnF (by cases e; exact hFc')
    · first | exact q1 | exact q2 | exact q3
    · first | exact q1 | exact q2 | exact q3
    · first | exact q1 | exact q2 | exact q3
    · refine ⟨_, _, F1, F2, rfl, ⟨⟨?_, some ⟨c, 0, none⟩, cap, ?_, ?_, hcm, .inr ⟨c, _, te, rfl, hFc, hheap, ?_, G, g1, g2, fun i x hi => ?_⟩⟩, hone⟩, rfl, h1, h2, h3⟩
      · show (sortI zs).length ≤ maxLen
        rw [sortI_len]; exact hm
      · show _ = [Value.slice _ (sortI zs).length cap]
        rw [sortI_len]
      · show (sortI zs).length ≤ cap
        rw [sortI_len]; exact hlc
      · simpa [«Sort».putCells] using hsz
      · replace hi : (sortI zs)[i]? = some x := hi
        have hilt := (List.getElem?_eq_some_iff.1 hi).1
        have hmem : x ∈ zs := by
          have := List.mem_of_getElem? hi
          unfold sortI at this
          exact List.mem_mergeSort.1 this
        obtain ⟨j, hj⟩ := List.getElem?_of_mem hmem
        refine ⟨win_one ?_, (hcell j x hj).2⟩
        have h5 := congrArg (fun l : List Value => l[i]?) htk
        simp only [List.getElem?_take, if_pos hilt, List.getElem?_map, hi, Option.map_some] at h5
        exact h5
    · exact Nat.lt_of_lt_of_le (hF d hd) q4
end Go.Fw
