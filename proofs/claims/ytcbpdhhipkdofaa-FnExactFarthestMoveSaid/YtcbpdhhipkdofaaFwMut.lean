/- Many blocks change at once: behind a call that changes what it is lent. No condition. -/
import Derived.Test.YtcbpdhhipkdofaaFwReg4
import Derived.Test.YtcbpdhhipkdofaaFwEff4
namespace Go.Fw
section
variable {P : Program} {w0 : W0} {w w' : World} {S : Nat → Prop} {m : Nat → Nat} {H : Nat → Value} {F F' : Nat → Nat → Prop} {st : St} {a : Act}

/-- The blocks 'used' change; their kinds, their headers and their places stay. -/
theorem Rel.upds (h : Rel w0 S m H F st a w) {used : List Nat} {loc' : List Blk}
    (hF : ∀ b, b ∉ used → F' b = F b) (hother : ∀ b, b ∉ used → loc'[b]? = st.loc[b]?)
    (hkind : ∀ b, b ∈ used → (∃ cs cs', st.loc[b]? = some (.box cs) ∧ loc'[b]? = some (.box cs')) ∨ (∃ pin τ xs xs', st.loc[b]? = some (.row pin τ xs) ∧ loc'[b]? = some (.row pin τ xs') ∧ xs'.length = xs.length))
    (hsz : w.heap.size ≤ w'.heap.size) (hheap : ∀ c, c < w.heap.size → (∀ b, b ∈ used → ¬ F b c) → w'.heap[c]? = w.heap[c]?) (hos : w'.os = w.os) (htape : w'.tape = w.tape) (hout : w'.output = w.output)
    (hFnew : ∀ b, b ∈ used → ∀ c, F' b c → ((∃ b', b' ∈ used ∧ F b' c) ∨ w.heap.size ≤ c) ∧ c < w'.heap.size) (hdisj : ∀ b b', b ∈ used → b' ∈ used → b ≠ b' → ∀ c, F' b c → ¬ F' b' c)
    (hnew : ∀ b, b ∈ used → ∀ k, loc'[b]? = some k → blkRel ⟨w'.heap, S, m, H, F', loc'.map (Blk.kill [] used)⟩ b (k.kill [] used)) :
    Rel w0 S m H F' ({ st with loc := loc' }.kill [] used) a w' := by
  have halive : ∀ b, b ∈ used → ∃ k : Blk, st.loc[b]? = some k ∧ k.alive = true := fun b hb => by
    rcases hkind b hb with ⟨cs, _, h1, _⟩ | ⟨pin, τ, xs, _, h1, _⟩
    · exact ⟨_, h1, rfl⟩
    · exact ⟨_, h1, rfl⟩
  have hFlt := h.F_lt
  have notUsed : ∀ b (k : Blk), b ∉ used → st.loc[b]? = some k → k.alive = true → ∀ c, F b c → w'.heap[c]? = w.heap[c]? := fun b k hb hk ha c hc =>
    hheap c (hFlt b k hk ha c hc) fun b' hb' hc' => by
      obtain ⟨k', hk', ha'⟩ := halive b' hb'
      exact h.disj b b' k k' hk hk' ha ha' (fun e => hb (e ▸ hb')) c hc hc'
  have hSh : ∀ c, S c → w'.heap[c]? = w.heap[c]? := fun c hc => hheap c (h.S_lt c hc) fun b hb hbc => by
    obtain ⟨k, hk, ha⟩ := halive b hb
    exact (h.own b k hk ha c hbc).2 hc
  have getM : ∀ b, (loc'.map (Blk.kill [] used))[b]? = (loc'[b]?).map (Blk.kill [] used) := fun b => List.getElem?_map ..
  have M : Moves ⟨w.heap, S, m, H, F, st.loc⟩ ⟨w'.heap, S, m, H, F', loc'.map (Blk.kill [] used)⟩ [] used := by
    refine ⟨fun _ h => h, hSh, fun b cs _ hb => ⟨rfl, ?_⟩, fun b pin τ xs _ hb => ⟨rfl, rfl, ?_⟩, fun b pin τ xs _ hn hb _ => ?_⟩
    · replace hb : st.loc[b]? = some (.box cs) := hb
      by_cases hu : b ∈ used
      · rcases hkind b hu with ⟨c1, c2, h1, h2⟩ | ⟨pin, τ, xs, xs', h1, _⟩
        · exact ⟨c2.map (C.kill [] used), by show (loc'.map _)[b]? = _; rw [getM, h2]; rfl⟩
        · rw [hb] at h1; cases h1
      · exact ⟨cs.map (C.kill [] used), by show (loc'.map _)[b]? = _; rw [getM, hother b hu, hb]; rfl⟩
    · replace hb : st.loc[b]? = some (.row pin τ xs) := hb
      by_cases hu : b ∈ used
      · rcases hkind b hu with ⟨c1, c2, h1, h2⟩ | ⟨pin', τ', xs1, xs', h1, h2, h3⟩
        · rw [hb] at h1; cases h1
        · rw [hb] at h1
          cases h1
          exact ⟨pin, xs', by show (loc'.map _)[b]? = _; rw [getM, h2]; rfl, h3⟩
      · exact ⟨pin, xs, by show (loc'.map _)[b]? = _; rw [getM, hother b hu, hb]; rfl, rfl⟩
    · replace hb : st.loc[b]? = some (.row pin τ xs) := hb
      exact ⟨fun c hc => by show F' b c; rw [hF b hn]; exact hc, notUsed b _ hn hb rfl⟩
  have hdr : ∀ b pin τ xs, st.loc[b]? = some (.row pin τ xs) → ∃ base cap, H b = .slice base xs.length cap := h.hdr
  have hst : ({ st with loc := loc' }.kill [] used : St) = { st with fr := killFr [] used st.fr, loc := loc'.map (Blk.kill [] used) } := by
    rw [St.kill_eq]
    simp only [deadAt_nil]
  rw [hst]
  have other : ∀ b (k : Blk), b ∉ used → (loc'.map (Blk.kill [] used))[b]? = some k → ∃ k0, st.loc[b]? = some k0 ∧ k = k0.kill [] used := fun b k hb hk => by
    rw [getM, hother b hb] at hk
    cases hl : st.loc[b]? with
    | none => rw [hl] at hk; cases hk
    | some k0 => rw [hl] at hk; cases hk; exact ⟨k0, rfl, rfl⟩
  refine ⟨h.size, h.defers, fun t => ?_, fun b k hk => ?_, fun b k hk ha c hc => ?_, fun b b' k k' hk hk' ha ha' hne c hc hc' => ?_, fun c hc => ⟨(h.stab c hc).1, (hSh c hc).trans (h.stab c hc).2⟩,
    Nat.le_trans h.grow hsz, hos.trans h.os, htape.trans h.tape, hout.trans h.output, fun b τ xs hk => ?_⟩
  · show fvRel _ (look (killFr [] used st.fr) t) _
    rw [look_kill]
    exact (h.fr t).move M hdr
  · replace hk : (loc'.map (Blk.kill [] used))[b]? = some k := hk
    show blkRel ⟨w'.heap, S, m, H, F', loc'.map (Blk.kill [] used)⟩ b k
    by_cases hu : b ∈ used
    · rw [getM] at hk
      cases hl : loc'[b]? with
      | none => rw [hl] at hk; cases hk
      | some k0 => rw [hl] at hk; cases hk; exact hnew b hu k0 hl
    · obtain ⟨k0, hl, rfl⟩ := other b k hu hk
      have hb0 := h.blk b k0 hl
      cases k0 with
      | dead => trivial
      | box cs =>
        obtain ⟨arr, te, hg, hac, hf⟩ := hb0
        refine ⟨arr, te, (notUsed b _ hu hl rfl _ hf).trans hg, hac.map_left fun _ _ h => h.move M hdr, ?_⟩
        show F' b (m b)
        rw [hF b hu]; exact hf
      | row pin τ xs =>
        obtain ⟨ho, base, cap, e, hbase⟩ := hb0
        refine ⟨?_, base, cap, e, hbase⟩
        show Own w'.heap S (.slice τ) xs [H b] (F' b)
        rw [hF b hu]
        exact Own.mono (fun _ h => h) hSh _ _ _ _ _ (fun _ h => h) (notUsed b _ hu hl rfl) ho
  · replace hk : (loc'.map (Blk.kill [] used))[b]? = some k := hk
    by_cases hu : b ∈ used
    · obtain ⟨h1, h2⟩ := hFnew b hu c hc
      refine ⟨h2, fun hs => ?_⟩
      rcases h1 with ⟨b', hb', h1⟩ | h1
      · obtain ⟨k', hk', ha'⟩ := halive b' hb'
        exact (h.own b' k' hk' ha' c h1).2 hs
      · have := h.S_lt c hs; omega
    · obtain ⟨k0, hl, rfl⟩ := other b k hu hk
      rw [kill_alive] at ha
      rw [hF b hu] at hc
      have := h.own b k0 hl ha c hc
      exact ⟨by omega, this.2⟩
  · replace hk : (loc'.map (Blk.kill [] used))[b]? = some k := hk
    replace hk' : (loc'.map (Blk.kill [] used))[b']? = some k' := hk'
    have sep : ∀ b1 b2 (k1 : Blk), b1 ∉ used → b2 ∈ used → (loc'.map (Blk.kill [] used))[b1]? = some k1 → k1.alive = true → F' b1 c → F' b2 c → False := by
      intro b1 b2 k1 hu1 hu2 hl1 ha1 hc1 hc2
      obtain ⟨k0, hl, rfl⟩ := other b1 k1 hu1 hl1
      rw [kill_alive] at ha1
      rw [hF b1 hu1] at hc1
      rcases (hFnew b2 hu2 c hc2).1 with ⟨b3, hb3, h3⟩ | h3
      · obtain ⟨k3, hk3, ha3⟩ := halive b3 hb3
        exact h.disj b1 b3 k0 k3 hl hk3 ha1 ha3 (fun e => hu1 (e ▸ hb3)) c hc1 h3
      · have := hFlt b1 k0 hl ha1 c hc1; omega
    by_cases hu : b ∈ used <;> by_cases hu' : b' ∈ used
    · exact hdisj b b' hu hu' hne c hc hc'
    · exact sep b' b k' hu' hu hk' ha' hc' hc
    · exact sep b b' k hu hu' hk ha hc hc'
    · obtain ⟨j, hl, rfl⟩ := other b k hu hk
      obtain ⟨j', hl', rfl⟩ := other b' k' hu' hk'
      rw [kill_alive] at ha ha'
      rw [hF b hu] at hc
      rw [hF b' hu'] at hc'
      exact h.disj b b' j j' hl hl' ha ha' hne c hc hc'
  · replace hk : (loc'.map (Blk.kill [] used))[b]? = some (.row true τ xs) := hk
    by_cases hu : b ∈ used
    · rw [getM] at hk
      rcases hkind b hu with ⟨c1, c2, h1, h2⟩ | ⟨pin', τ', xs1, xs', h1, h2, h3⟩
      · rw [h2] at hk; cases hk
      · rw [h2] at hk
        cases hk
        exact h.pin b _ _ h1
    · obtain ⟨k0, hl, e⟩ := other b _ hu hk
      cases k0 with
      | dead => cases e
      | box cs => cases e
      | row pin τ0 xs0 => cases e; exact h.pin b _ _ hl
end
end Go.Fw
