/- append: what the interpreter takes, the machine does. No condition. -/
import Derived.Test.YtcbpdhhipkdofaaFwEff3
namespace Go.Fw

theorem Rep.one {h : Heap} {S : Nat → Prop} : (τ : Ty) → (x : τ.D) → (cs : List Value) → Rep h S τ x cs → ∀ u, u ∈ cs → u.oneCell' = true
  | .int _, _, _, r, u, hu => by obtain ⟨rfl, _⟩ := r; simp at hu; subst hu; rfl
  | .bool, _, _, r, u, hu => by have r : _ = [_] := r; rw [r] at hu; simp at hu; subst hu; rfl
  | .flt _, _, _, r, u, hu => by obtain ⟨b, rfl, _⟩ := r; simp at hu; subst hu; rfl
  | .str, _, _, r, u, hu => by obtain ⟨rfl, _⟩ := r; simp at hu; subst hu; rfl
  | .unit, _, _, r, u, hu => by have r : _ = [] := r; rw [r] at hu; cases hu
  | .pair a b, x, _, r, u, hu => by
    obtain ⟨c1, c2, rfl, r1, r2⟩ := r
    rcases List.mem_append.1 hu with hu | hu
    · exact Rep.one a _ _ r1 u hu
    · exact Rep.one b _ _ r2 u hu
  | .slice _, _, _, r, u, hu => by obtain ⟨_, base, cap, rfl, _⟩ := r; simp at hu; subst hu; rfl
  | .rslice _, _, _, r, u, hu => by obtain ⟨_, base, cap, rfl, _⟩ := r; simp at hu; subst hu; rfl
  | .ref _, _, _, r, u, hu => by obtain ⟨_, _, _, _, _, rfl, _⟩ := r; simp at hu; subst hu; rfl
  | .fn _, _, _, r, u, hu => by have e : _ = _ := r; rw [e] at hu; simp at hu; subst hu; rfl

theorem Own.one {h : Heap} {S F : Nat → Prop} {τ : Ty} {x : τ.D} {cs : List Value} (r : Own h S τ x cs F) : ∀ u, u ∈ cs → u.oneCell' = true :=
  Rep.one τ x cs (Own.rep τ x cs F (fun c => F c ∨ S c) (fun _ h => .inl h) (fun _ h => .inr h) r)

/-- What is appended. -/
structure News (h : Heap) (S : Nat → Prop) (F : Nat → Nat → Prop) (τ : Ty) (ys : List τ.D) (ms : List Nat) (v : Value) (news : List Value) (G : Nat → Nat → Prop) : Prop where
  val : ∃ base c2, v = .slice base ys.length c2 ∧ (ys.length = 0 ∨ ∃ c off arr te fz, base = some ⟨c, off, none⟩ ∧ h[c]? = some (.cells arr te fz) ∧ off + ys.length * τ.size ≤ arr.size ∧ news = win arr off (ys.length * τ.size))
  len : news.length = ys.length * τ.size
  own : ∀ i x, ys[i]? = some x → Own h S τ x ((news.drop (i * τ.size)).take τ.size) (G i)
  apart : ∀ i j b, G i b → G j b → i = j
  inF : ∀ i b, G i b → rowsF F ms b

theorem News.one {h : Heap} {S : Nat → Prop} {F : Nat → Nat → Prop} {τ : Ty} {ys : List τ.D} {ms : List Nat} {v : Value} {news : List Value} {G : Nat → Nat → Prop} (n : News h S F τ ys ms v news G) : ∀ u, u ∈ news → u.oneCell' = true := by
  intro u hu
  obtain ⟨k, hk⟩ := List.getElem?_of_mem hu
  have hlt := (List.getElem?_eq_some_iff.1 hk).1
  rw [n.len] at hlt
  have hpos : 0 < τ.size := by
    rcases Nat.eq_zero_or_pos τ.size with h | h
    · rw [h] at hlt; omega
    · exact h
  have hi : k / τ.size < ys.length := Nat.div_lt_of_lt_mul (by rw [Nat.mul_comm]; exact hlt)
  refine (n.own (k / τ.size) _ (List.getElem?_eq_getElem hi)).one u ?_
  refine List.mem_of_getElem? (i := k % τ.size) ?_
  rw [List.getElem?_take, if_pos (Nat.mod_lt _ hpos), List.getElem?_drop]
  rw [show k / τ.size * τ.size + k % τ.size = k by rw [Nat.mul_comm]; exact Nat.div_add_mod k τ.size]
  exact hk

section
variable {P : Program} {w0 : W0} {w : World} {S : Nat → Prop} {m : Nat → Nat} {H : Nat → Value} {F : Nat → Nat → Prop} {st : St} {a : Act}

theorem drop_win (arr : Array Value) (off n i sz : Nat) (h : i * sz + sz ≤ n) : ((win arr off n).drop (i * sz)).take sz = win arr (off + i * sz) sz := by
  rw [win_win arr off n (i * sz) sz h]

theorem mul_le_of_lt {i n sz : Nat} (h : i < n) : i * sz + sz ≤ n * sz := by
  rw [← Nat.succ_mul]; exact Nat.mul_le_mul_right _ h

theorem appD_news (hr : Rel w0 S m H F st a w) {τ : Ty} {y : Sl} {ys : List τ.D} {ms : List Nat} {v : Value} (h : appD st.loc τ y = some (ys, ms)) (hv : slRel ⟨w.heap, S, m, H, F, st.loc⟩ y v) :
    (∃ news G, News w.heap S F τ ys ms v news G) ∧ ∀ d, d ∈ ms → ∃ τ xs, st.loc[d]? = some (.row false τ xs) := by
  unfold appD at h
  split at h
  · unfold giveSl at h
    split at h
    · rename_i hy
      cases hy
      cases h
      obtain ⟨base, rfl⟩ := hv
      exact ⟨⟨[], fun _ _ => False, ⟨base, 0, rfl, .inl rfl⟩, by simp, fun i x hi => by simp at hi, fun _ _ _ h => h.elim, fun _ _ h => h.elim⟩, fun d hd => by cases hd⟩
    · rename_i b hy
      cases hy
      obtain ⟨hl, rfl⟩ := giveRow_some h
      obtain ⟨rfl, _⟩ := hv
      refine ⟨?_, fun d hd => by simp at hd; subst hd; exact ⟨_, _, hl⟩⟩
      obtain ⟨⟨hm, base, cap, eH, hlc, hcm, h3⟩, _⟩ := hr.blk b _ hl
      replace eH : H b = .slice base ys.length cap := by simpa using eH
      rcases h3 with h0 | ⟨c, arr, te, rfl, hF, hg, hsz, G, g1, g2, hx⟩
      · have : ys = [] := List.eq_nil_of_length_eq_zero (by omega)
        subst this
        exact ⟨[], fun _ _ => False, ⟨base, cap, eH, .inl rfl⟩, by simp, fun i x hi => by simp at hi, fun _ _ _ h => h.elim, fun _ _ h => h.elim⟩
      · have hfit : 0 + ys.length * τ.size ≤ arr.size := by rw [hsz, Nat.zero_add]; exact Nat.mul_le_mul_right _ hlc
        refine ⟨win arr 0 (ys.length * τ.size), G, ⟨_, cap, eH, .inr ⟨c, 0, arr, te, (0, 0), rfl, hg, hfit, rfl⟩⟩, win_length hfit, fun i x hi => ?_, g1, fun i d hd => ⟨b, by simp, (g2 i d hd).1⟩⟩
        have hilt : i < ys.length := (List.getElem?_eq_some_iff.1 hi).1
        rw [drop_win _ _ _ _ _ (mul_le_of_lt hilt), Nat.zero_add]
        exact hx i x hi
    · cases h
  · rename_i hsl
    split at h
    · rename_i xs hs
      cases h
      refine ⟨?_, fun d hd => by cases hd⟩
      have := slD_rel (Γ := ⟨w.heap, S, m, H, F, st.loc⟩) (T := fun c => c < w.heap.size) hr.blk (fun b pin τ xs hl => hr.F_lt b _ hl rfl) hr.S_lt hs hv
      obtain ⟨hm, base, cap, e, hlc, hcm, h3⟩ := this
      have e : v = .slice base ys.length cap := by simpa using e
      rcases h3 with rfl | ⟨c, off, arr, te, fz, rfl, hc, hg, hfit, hx⟩
      · exact ⟨[], fun _ _ => False, ⟨base, cap, e, .inl rfl⟩, by simp, fun i x hi => by simp at hi, fun _ _ _ h => h.elim, fun _ _ h => h.elim⟩
      · refine ⟨win arr off (ys.length * τ.size), fun _ _ => False, ⟨_, cap, e, .inr ⟨c, off, arr, te, fz, rfl, hg, hfit, rfl⟩⟩, win_length hfit, fun i x hi => ?_, fun _ _ _ h => h.elim, fun _ _ h => h.elim⟩
        have hilt : i < ys.length := (List.getElem?_eq_some_iff.1 hi).1
        rw [drop_win _ _ _ _ _ (mul_le_of_lt hilt)]
        exact flat_own τ x _ hsl (hx i x hi)
    · cases h

theorem win_of_take {arr : Array Value} {l : List Value} {N i sz : Nat} (h : arr.toList.take N = l) (hi : i * sz + sz ≤ N) : win arr (i * sz) sz = (l.drop (i * sz)).take sz := by
  subst h
  unfold win
  rw [List.drop_take, List.take_take, Nat.min_eq_left (by omega)]

/-- append onto a row. -/
theorem append_row (hr : Rel w0 S m H F st a w) {t e : TypeId} {ti te : TI} (ok : TIOK P t ti) (hu : ti.und = .slice e) (oke : TIOK P e te) (ty : TypeId) {b : Nat} {xs ys : List te.ty.D} {ms : List Nat} {v : Value} (hl : st.loc[b]? = some (.row false te.ty xs))
    (hsz : te.ty.size = te.size) (hby : te.bytes < 32768) (hzl : te.zero.length = te.size) (hb : b ∉ ms) (hlen : xs.length + ys.length ≤ 4294967296) {news : List Value} {G2 : Nat → Nat → Prop} (hn : News w.heap S F te.ty ys ms v news G2)
    (hms : ∀ d, d ∈ ms → ∃ τ xs, st.loc[d]? = some (.row false τ xs)) :
    ∃ v' w' m' H' F', (Builtin.append_ #[t, t] ty #[H b, v]).run P w = .ok v' w' ∧ H' b = v' ∧ Rel w0 S m' H' F' ((st.kill (b :: ms) []).setBlk b (.row false te.ty (xs ++ ys))) a w' := by
  obtain ⟨⟨hm, base, cap, eH, hlc, hcm, h3⟩, base0, cap0, eH0, hbase⟩ := hr.blk b _ hl
  replace eH : H b = .slice base xs.length cap := by simpa using eH
  obtain ⟨base2, c2, rfl, hsrc⟩ := hn.val
  have hF : ∀ c, F b c → c < w.heap.size := fun c hc => hr.F_lt b _ hl rfl c hc
  have hrow : ∀ c, rowsF F ms c → c < w.heap.size ∧ ¬ F b c := by
    rintro c ⟨d, hd, hc⟩
    obtain ⟨τ2, xs2, hld⟩ := hms d hd
    exact ⟨hr.F_lt d _ hld rfl c hc, fun hbc => hr.disj d b _ _ hld hl rfl rfl (fun e => hb (e ▸ hd)) c hc hbc⟩
  obtain ⟨olds, g, G, holen, hold, hg1, hg2, hFg, hown⟩ : ∃ (olds : List Value) (g : Nat) (G : Nat → Nat → Prop), olds.length = xs.length * te.size ∧
      (cap = 0 ∨ ∃ arr te', base = some ⟨g, 0, none⟩ ∧ w.heap[g]? = some (.cells arr te' (0, 0)) ∧ arr.size = cap * te.size ∧ olds = win arr 0 (xs.length * te.size)) ∧
      (∀ i j c, G i c → G j c → i = j) ∧ (∀ i c, G i c → F b c ∧ c ≠ g) ∧ (cap ≠ 0 → F b g) ∧ ∀ i x, xs[i]? = some x → Own w.heap S te.ty x ((olds.drop (i * te.ty.size)).take te.ty.size) (G i) := by
    rcases h3 with h0 | ⟨c, arr, te', rfl, hFc, hg, hsz', G, g1, g2, hx⟩
    · have : xs = [] := List.eq_nil_of_length_eq_zero (by omega)
      subst this
      exact ⟨[], 0, fun _ _ => False, by simp, .inl h0, fun _ _ _ h => h.elim, fun _ _ h => h.elim, fun h => absurd h0 h, fun i x hi => by simp at hi⟩
    · have hfit : 0 + xs.length * te.size ≤ arr.size := by rw [hsz', hsz, Nat.zero_add]; exact Nat.mul_le_mul_right _ hlc
      refine ⟨win arr 0 (xs.length * te.size), c, G, win_length hfit, .inr ⟨arr, te', rfl, hg, by rw [hsz', hsz], rfl⟩, g1, g2, fun _ => hFc, fun i x hi => ?_⟩
      have hilt : i < xs.length := (List.getElem?_eq_some_iff.1 hi).1
      rw [← hsz, drop_win _ _ _ _ _ (mul_le_of_lt hilt), Nat.zero_add]
      exact hx i x hi
  have hnl : news.length = ys.length * te.size := by rw [hn.len, hsz]
  obtain ⟨v', w', hrun, s1, s2, s3, s4, s5, base', cap', rfl, hc1, hc2, hblk⟩ := run_append (P := P) ok hu oke ty (b := base2) (c2 := c2) hlc holen hold hcm hnl (by rw [← hsz]; exact hsrc) hn.one hlen hby hzl
  rw [eH]
  have heapF : ∀ c, c < w.heap.size → ¬ F b c → w'.heap[c]? = w.heap[c]? := fun c hc hnF => s2 c hc (by
    by_cases h0 : cap = 0
    · exact .inr h0
    · exact .inl fun e => hnF (e ▸ hFg h0))
  have heapG : ∀ c, F b c → c ≠ g → w'.heap[c]? = w.heap[c]? := fun c hc hne => s2 c (hF c hc) (.inl hne)
  have heapS : ∀ c, S c → w'.heap[c]? = w.heap[c]? := fun c hc => heapF c (hr.S_lt c hc) fun hbc => (hr.own b _ hl rfl c hbc).2 hc
  obtain ⟨g', hgrown⟩ : ∃ g', Grown S F b ms te.ty (xs ++ ys) w w' (.slice base' (xs.length + ys.length) cap') g' := by
    rcases hblk with h0 | ⟨g', arr', te', rfl, hg', hsz', htake, hor⟩
    · refine ⟨0, s1, heapF, s3, s4, s5, ?_, base', cap', by simp, by simpa using hc1, hc2, .inl h0⟩
      simp only [List.length_append, maxLen]; omega
    · refine ⟨g', s1, heapF, s3, s4, s5, by simp only [List.length_append, maxLen]; omega, some ⟨g', 0, none⟩, cap', by simp, by simpa using hc1, hc2, .inr ⟨arr', te', rfl, hg', by rw [hsz', hsz], ?_, ?_,
        fun i => if i < xs.length then G i else G2 (i - xs.length), ?_, ?_, ?_⟩⟩
      · rcases hor with ⟨rfl, h0⟩ | ⟨rfl, _⟩
        · exact .inl (hFg h0)
        · exact .inr (Nat.le_refl _)
      · exact (Array.getElem?_eq_some_iff.1 hg').1
      · intro i j c hi hj
        by_cases h1 : i < xs.length <;> by_cases h2 : j < xs.length <;> simp only [h1, h2, if_true, if_false] at hi hj
        · exact hg1 i j c hi hj
        · exact absurd (hg2 i c hi).1 (hrow c (hn.inF _ c hj)).2
        · exact absurd (hg2 j c hj).1 (hrow c (hn.inF _ c hi)).2
        · have := hn.apart _ _ c hi hj; omega
      · intro i c hi
        by_cases h1 : i < xs.length <;> simp only [h1, if_true, if_false] at hi
        · refine ⟨.inl (hg2 i c hi).1, fun e => ?_⟩
          rcases hor with ⟨h2, _⟩ | ⟨h2, _⟩
          · exact (hg2 i c hi).2 (e.trans h2)
          · have := hF c (hg2 i c hi).1; omega
        · have h5 := hn.inF _ c hi
          refine ⟨.inr h5, fun e => ?_⟩
          rcases hor with ⟨h2, h0⟩ | ⟨h2, _⟩
          · exact (hrow c h5).2 (by rw [e, h2]; exact hFg h0)
          · have := (hrow c h5).1; omega
      · intro i x hi
        have hilt : i < xs.length + ys.length := by
          have := (List.getElem?_eq_some_iff.1 hi).1
          simpa using this
        have hw : win arr' (i * te.ty.size) te.ty.size = ((olds ++ news).drop (i * te.ty.size)).take te.ty.size := win_of_take htake (by rw [← hsz]; exact mul_le_of_lt hilt)
        rw [hw]
        by_cases h1 : i < xs.length <;> simp only [h1, if_true, if_false]
        · rw [List.getElem?_append_left h1] at hi
          have h6 := mul_le_of_lt (sz := te.ty.size) h1
          rw [List.drop_append_of_le_length (by rw [holen, ← hsz]; omega), List.take_append_of_le_length (by rw [List.length_drop, holen, ← hsz]; omega)]
          exact Own.mono (fun _ h => h) heapS _ _ _ _ _ (fun _ h => h) (fun c hc => heapG c (hg2 i c hc).1 (hg2 i c hc).2) (hown i x hi)
        · rw [List.getElem?_append_right (by omega)] at hi
          have h7 : i * te.ty.size = olds.length + (i - xs.length) * te.ty.size := by
            rw [holen, ← hsz, ← Nat.add_mul]; congr 1; omega
          rw [h7, List.drop_length_add_append]
          exact Own.mono (fun _ h => h) heapS _ _ _ _ _ (fun _ h => h) (fun c hc => heapF c (hrow c (hn.inF _ c hc)).1 (hrow c (hn.inF _ c hc)).2) (hn.own _ x hi)
  exact ⟨_, w', _, _, _, hrun, by simp, hr.growRow hl hms hgrown⟩
end

section
variable {P : Program} {E : Tabs} {R : Type} {res : R} {o : Oper} {st : St}

theorem ok_append (ok : TabOK P E.T) {c : Call} {s : Sl} {x : FV} {t : TypeId} {f : St → Option R} (ho : o.op = .call c) (hc : c.callee = .builtin .append) (hargs : evs st c.args.toList = [.v (.one (.sl s)), x]) (hty : c.argTypes.toList = [t, t]) (hd : dstOk st.n o.dst = true)
    (h : effAppend E o.dst t s x st f = some res) : ∃ st', f st' = some res ∧ st'.n = st.n ∧ SeqOK P o st st' := by
  unfold effAppend at h
  split at h
  · rename_i e size bytes zero tty ht
    split at h
    · rename_i te y he
      obtain ⟨hb, h⟩ := bif_some h
      simp only [Bool.and_eq_true] at hb
      obtain ⟨⟨hb1, hb2⟩, hb3⟩ := hb
      have hsz := Nat.eq_of_beq_eq_true hb1
      have hby : te.bytes < 32768 := by simpa [Nat.blt_eq] using hb2
      have hzl := Nat.eq_of_beq_eq_true hb3
      split at h
      · rename_i ys ms hys
        have core : ∀ (st0 : St) (b : Nat) (xs : List te.ty.D), st0.n = st.n → st0.loc[b]? = some (.row false te.ty xs) → growRow o.dst b te.ty xs ys ms st0 f = some res →
            (∀ w0 S m H F a w vs vx, Rel w0 S m H F st a w → slRel ⟨w.heap, S, m, H, F, st.loc⟩ s vs → slRel ⟨w.heap, S, m, H, F, st.loc⟩ y vx → ∃ H' F', Rel w0 S m H' F' st0 a w ∧ H' b = vs ∧ (∃ news G, News w.heap S F' te.ty ys ms vx news G) ∧ ∀ d, d ∈ ms → ∃ τ xs, st0.loc[d]? = some (.row false τ xs)) →
            ∃ st', f st' = some res ∧ st'.n = st.n ∧ SeqOK P o st st' := by
          intro st0 b xs hn0 hl0 hg hrel
          unfold growRow at hg
          obtain ⟨hcond, hg⟩ := bif_some hg
          simp only [Bool.and_eq_true] at hcond
          obtain ⟨hnd, hlen⟩ := hcond
          have hnd' := (nodupB_iff _).1 hnd
          have hbm : b ∉ ms := (List.nodup_cons.1 hnd').1
          have hkn : ((st0.kill (b :: ms) []).setBlk b (.row false te.ty (xs ++ ys))).n = st.n := by
            show (st0.kill (b :: ms) []).n = st.n
            rw [St.kill_eq]; exact hn0
          refine ⟨_, hg, hkn, ?_⟩
          intro w0 S m H F a w hr next Q hnext
          have hall := evs_rel hr c.args.toList
          rw [hargs] at hall
          have hlist : ∃ vs vx, c.args.toList.map a.eval = [vs, vx] ∧ slRel ⟨w.heap, S, m, H, F, st.loc⟩ s vs ∧ slRel ⟨w.heap, S, m, H, F, st.loc⟩ y vx := by
            generalize c.args.toList.map a.eval = l at hall
            cases hall with
            | cons h1 t1 => cases t1 with
              | cons h2 t2 => cases t2; exact ⟨_, _, rfl, h1, h2⟩
          obtain ⟨vs, vx, hmap, hsv, hyv⟩ := hlist
          obtain ⟨H', F', hr', hHb, ⟨news, G, hnews⟩, hms⟩ := hrel w0 S m H F a w vs vx hr hsv hyv
          obtain ⟨v', w', m'', H'', F'', hrun, hv', hr''⟩ := append_row hr' (ok t _ ht) rfl (ok e te he) o.type hl0 hsz hby hzl hbm (Nat.le_of_ble_eq_true hlen) hnews hms
          rw [hHb] at hrun
          have hargs' : c.args.map a.eval = #[vs, vx] := by
            apply Array.ext'
            simpa using hmap
          have hty' : c.argTypes = #[t, t] := by
            apply Array.ext'
            simpa using hty
          have hexec : (execOp a.eval o).run P w = .ok (.value v') w' := by
            unfold execOp
            simp [ho, resolve, hc, invoke, builtin, hargs', hty', hrun]
          unfold Oper.wp
          rw [hexec, Oper.upon_value]
          refine hnext _ w' m'' H'' F'' (hr''.bind (bs := []) (Ext.refl w') (by rw [hkn]; exact hd) ⟨fun _ _ => ⟨rfl, rfl, rfl⟩, ?_, fun j k hj => by simp at hj, fun j j' _ hj => by simp at hj, fun j τ xs hj => by simp at hj⟩)
          rw [List.append_nil]
          refine ⟨hv'.symm, false, te.ty, xs ++ ys, ?_⟩
          have hblt : b < (st0.kill (b :: ms) []).loc.length := by
            rw [St.kill_eq]
            have := kill_loc_get (b :: ms) [] st0.loc b
            rw [hl0] at this
            exact (List.getElem?_eq_some_iff.1 this).1
          exact List.getElem?_set_self hblt
        cases s with
        | nil =>
          simp only [] at h
          refine core { st with loc := st.loc ++ [.row false te.ty []] } st.loc.length [] rfl (by simp) h ?_
          rintro w0 S m H F a w vs vx hr ⟨base, rfl⟩ hyv
          obtain ⟨⟨news, G, hn⟩, hms⟩ := appD_news hr hys hyv
          refine ⟨_, _, hr.addRow te.ty base, by simp, ⟨news, G, ⟨hn.val, hn.len, hn.own, hn.apart, fun i d hd => ?_⟩⟩, fun d hd => ?_⟩
          · obtain ⟨d', hd', hF⟩ := hn.inF i d hd
            obtain ⟨τ2, xs2, hl2⟩ := hms d' hd'
            have := (List.getElem?_eq_some_iff.1 hl2).1
            exact ⟨d', hd', by simp only [show d' ≠ st.loc.length by omega, if_false]; exact hF⟩
          · obtain ⟨τ2, xs2, hl2⟩ := hms d hd
            exact ⟨τ2, xs2, by show (st.loc ++ _)[d]? = _; rw [getElem?_append_lt (List.getElem?_eq_some_iff.1 hl2).1]; exact hl2⟩
        | row b =>
          simp only [] at h
          split at h
          · rename_i τ xs hl
            split at h
            · rename_i hτ
              subst hτ
              refine core st b xs rfl hl h ?_
              rintro w0 S m H F a w vs vx hr ⟨rfl, _⟩ hyv
              obtain ⟨hn, hms⟩ := appD_news hr hys hyv
              exact ⟨H, F, hr, rfl, hn, hms⟩
            · cases h
          · cases h
        | sub _ _ _ => cases h
        | view _ _ => cases h
        | nest _ _ _ _ _ => cases h
      · cases h
    · cases h
  · cases h
end
end Go.Fw
