/- Slices that are made and cut, len, min and max, and calls of functions that leave their arguments alone. No condition. -/
import Derived.Test.YtcbpdhhipkdofaaFwOps3
namespace Go.Fw

section
variable {P : Program} {o : Oper} {st : St} {R : Type} {r : R}

theorem wrap64_small {n : Int} (h0 : 0 ≤ n) (h1 : n ≤ 4294967296) : IntKind.i64.wrap n = n := by
  unfold IntKind.wrap
  simp only [IntKind.signed, IntKind.bits]
  simp
  omega

theorem ok_makeSlice {E : Tabs} (tok : TabOK P E.T) {t e : TypeId} {ti te : TI} {l c : Operand} {n m' : Int} {k k' : IntKind} {z : te.ty.D} (ho : o.op = .makeSlice t l c)
    (ht : E.T t = some ti) (hu : ti.und = .slice e) (he : E.T e = some te) (hl : st.ev l = .v (.one (.int k n))) (hc : st.ev c = .v (.one (.int k' m'))) (hz : ownD [] te.ty te.zero = some (z, []))
    (hb1 : (Nat.blt te.bytes 32768 && Nat.beq te.ty.size te.size) = true) (hb2 : mkOk n m' = true) :
    PureOK P o st (.v (.one (.sl (.row st.loc.length)))) [.row false te.ty (List.replicate n.toNat z)] :=
  .newRow fun w0 S m H F a w hr => by
    simp only [mkOk, Bool.and_eq_true, decide_eq_true_eq, Nat.blt_eq] at hb1 hb2
    obtain ⟨⟨h0, h1⟩, h2⟩ := hb2
    obtain ⟨h3, h4⟩ := hb1
    have hsz : te.ty.size = te.size := Nat.eq_of_beq_eq_true h4
    obtain ⟨el, _⟩ := one_of_int (hl ▸ ev_rel hr l)
    obtain ⟨ec, _⟩ := one_of_int (hc ▸ ev_rel hr c)
    obtain ⟨d, hd, hud⟩ := (tok t ti ht).und
    rw [hu] at hud
    cases hud
    obtain ⟨ie, hie, hse, hby, zv, hzv, hza⟩ := (tok e te he).info
    have hΓ : Own w.heap S te.ty z zv.cells.toList (rowsF F []) :=
      (ownD_rel (Γ := ⟨w.heap, S, m, H, F, []⟩) (fun b k h => by simp at h) (fun b b' k k' h => by simp at h) te.ty te.zero z [] zv.cells.toList hz (by simp) (hza.imp fun _ _ h => h _)).1
    have hzs : zv.cells.size = te.size := by have := Own.length _ _ _ _ hΓ; rw [hsz] at this; simpa using this
    have hlen : (List.replicate n.toNat z).length = n.toNat := List.length_replicate
    refine ⟨(Array.range (m'.toNat * te.size)).map (zv.cells[· % zv.cells.size]!), e, m'.toNat, ?_, ?_, by rw [hlen]; omega, ?_, fun i x hi => ?_⟩
    · rw [hlen]
      unfold execOp
      have hw1 : IntKind.i64.wrap n = n := wrap64_small h0 (by omega)
      have hw2 : IntKind.i64.wrap m' = m' := wrap64_small (by omega) h2
      have htl : ((m' < 0 : Bool) || ((ie.bytes : Int) * m' > 2 ^ 48 : Bool)) = false := by
        have hm1 : (ie.bytes : Int) * m' ≤ 32768 * 4294967296 := by
          have : (ie.bytes : Int) ≤ 32768 := by omega
          exact Int.mul_le_mul this h2 (by omega) (by omega)
        have e1 : (m' < 0 : Bool) = false := by simp; omega
        have e2 : ((ie.bytes : Int) * m' > 2 ^ 48 : Bool) = false := by simp; omega
        rw [e1, e2]; rfl
      have hcond : ((m' < 0 : Bool) || ((ie.bytes : Int) * m' > 2 ^ 48 : Bool) || (n < 0 : Bool) || (n > m' : Bool)) = false := by
        rw [htl]
        have e1 : (n < 0 : Bool) = false := by simp; omega
        have e2 : (n > m' : Bool) = false := by simp; omega
        rw [e1, e2]; rfl
      have hti : (typeInfo e).run P w = .ok ie w := by simp [typeInfo, hie]
      have hzr : (zeroValue e).run P w = .ok zv w := by simp [zeroValue, typeInfo, hie, hzv]
      have hsr := (tok e te he).sizeOf (P := P) w
      simp only [ho, el, ec, Instr.makeSlice, asInt, asIntOf, Sem.run_bind, Sem.run_pure, run_underlying hd, Result.andThen_ok, hti, hw1, hw2, hcond, Bool.false_eq_true, if_false, run_askRoom, hsr, Sem.run_ite]
      by_cases h5 : m'.toNat * te.size = 0
      · have hr0 : Array.range (m'.toNat * te.size) = #[] := by rw [h5]; rfl
        simp only [if_pos h5, Result.andThen_ok, hr0, Array.map_empty, run_newRow]
      · simp only [if_neg h5, hzr, Result.andThen_ok, run_newRow]
    · simp [hsz]
    · simp only [maxLen]; omega
    · have hi' : x = z ∧ i < n.toNat := by
        rw [List.getElem?_replicate] at hi
        split at hi
        · cases hi; exact ⟨rfl, by assumption⟩
        · cases hi
      rw [hi'.1, hsz, ← hzs, zeros_win (show i < m'.toNat by omega)]
      exact Own.mono (fun _ h => h) (fun _ _ => rfl) _ _ _ _ _ (fun c ⟨b, hb, _⟩ => by cases hb) (fun _ _ => rfl) hΓ

/-- The bounds of a slice expression. -/
theorem boundsK_some {len : Nat} {lo hi : Option FV} {f : Nat → Nat → Option R} (h : boundsK len lo hi f = some r) :
    ∃ l u, f l u = some r ∧ l ≤ u ∧ u ≤ len ∧ ∀ (Γ : Ctx) (lo' hi' : Option Value) (isS : Bool) (cap : Nat) (w : World), len ≤ cap → (∀ x, lo = some x → ∃ y, lo' = some y ∧ fvRel Γ x y) → (lo = none → lo' = none) →
      (∀ x, hi = some x → ∃ y, hi' = some y ∧ fvRel Γ x y) → (hi = none → hi' = none) → (Instr.sliceBounds isS len cap lo' hi' none).run P w = .ok (l, u, cap) w := by
  unfold boundsK at h
  split at h
  · refine ⟨0, len, h, Nat.zero_le _, Nat.le_refl _, fun Γ lo' hi' isS cap w hc h1 h2 h3 h4 => ?_⟩
    rw [h2 rfl, h4 rfl]
    simp [Instr.sliceBounds]
  · rename_i k a
    cases hb : decide (0 ≤ a) && decide (a ≤ (len : Int)) <;> rw [hb] at h <;> simp at h hb
    refine ⟨a.toNat, len, h, by omega, Nat.le_refl _, fun Γ lo' hi' isS cap w hc h1 h2 h3 h4 => ?_⟩
    obtain ⟨y, hy, hr⟩ := h1 _ rfl
    obtain ⟨rfl, _⟩ := one_of_int hr
    rw [hy, h4 rfl]
    simp [Instr.sliceBounds, Instr.sliceBound, asIntOf, hb]
  · rename_i k b
    cases hb : decide (0 ≤ b) && decide (b ≤ (len : Int)) <;> rw [hb] at h <;> simp at h hb
    refine ⟨0, b.toNat, h, Nat.zero_le _, by omega, fun Γ lo' hi' isS cap w hc h1 h2 h3 h4 => ?_⟩
    obtain ⟨y, hy, hr⟩ := h3 _ rfl
    obtain ⟨rfl, _⟩ := one_of_int hr
    have : b ≤ (cap : Int) := by omega
    rw [hy, h2 rfl]
    simp [Instr.sliceBounds, Instr.sliceBound, asIntOf, hb.1, this]
  · rename_i k a k' b
    cases hb : decide (0 ≤ b) && decide (b ≤ (len : Int)) <;> rw [hb] at h <;> simp at h hb
    cases ha : decide (0 ≤ a) && decide (a ≤ b) <;> rw [ha] at h <;> simp at h ha
    refine ⟨a.toNat, b.toNat, h, by omega, by omega, fun Γ lo' hi' isS cap w hc h1 h2 h3 h4 => ?_⟩
    obtain ⟨y, hy, hr⟩ := h3 _ rfl
    obtain ⟨rfl, _⟩ := one_of_int hr
    obtain ⟨y', hy', hr'⟩ := h1 _ rfl
    obtain ⟨rfl, _⟩ := one_of_int hr'
    have h5 : b ≤ (cap : Int) := by omega
    rw [hy, hy']
    simp [Instr.sliceBounds, Instr.sliceBound, asIntOf, hb.1, h5, ha.1]
    intro h6
    omega
  · cases h

theorem opt_rel {w0 : W0} {w : World} {S : Nat → Prop} {m : Nat → Nat} {H : Nat → Value} {F : Nat → Nat → Prop} {a : Act} (hr : Rel w0 S m H F st a w) (lo : Option Operand) :
    (∀ x, lo.map st.ev = some x → ∃ y, lo.map a.eval = some y ∧ fvRel ⟨w.heap, S, m, H, F, st.loc⟩ x y) ∧ (lo.map st.ev = none → lo.map a.eval = none) := by
  cases lo with
  | none => exact ⟨fun x h => by simp at h, fun _ => rfl⟩
  | some x => exact ⟨fun y h => by simp at h; subst h; exact ⟨_, rfl, ev_rel hr x⟩, fun h => by simp at h⟩

theorem drop_take_eq {α : Type} (xs : List α) (l u : Nat) : (xs.take u).drop l = (xs.drop l).take (u - l) := by
  rw [List.drop_take]

theorem ok_slice {E : Tabs} (tok : TabOK P E.T) {t e : TypeId} {ti te : TI} {x : Operand} {lo hi : Option Operand} {s : Sl} {f : Sl → Option R} (ho : o.op = .slice t x lo hi none) (ht : E.T t = some ti) (hu : ti.und = .slice e)
    (he : E.T e = some te) (hx : st.ev x = .v (.one (.sl s))) (hz : slSz st.loc te.size s = true) (h : sliceK st.loc s (lo.map st.ev) (hi.map st.ev) f = some r) :
    ∃ s', f s' = some r ∧ PureOK P o st (.v (.one (.sl s'))) [] := by
  have mk : ∀ (len l u : Nat) (s' : Sl), l ≤ u → u ≤ len →
      (∀ (Γ : Ctx) (lo' hi' : Option Value) (isS : Bool) (cap : Nat) (w : World), len ≤ cap → (∀ x, lo.map st.ev = some x → ∃ y, lo' = some y ∧ fvRel Γ x y) → (lo.map st.ev = none → lo' = none) →
        (∀ x, hi.map st.ev = some x → ∃ y, hi' = some y ∧ fvRel Γ x y) → (hi.map st.ev = none → hi' = none) → (Instr.sliceBounds isS len cap lo' hi' none).run P w = .ok (l, u, cap) w) →
      (∀ w0 S m H F a w, Rel w0 S m H F st a w → ∃ base cap, a.eval x = .slice base len cap ∧ len ≤ cap ∧
        slRel ⟨w.heap, S, m, H, F, st.loc⟩ s' (.slice (if cap = l then base else base.map (·.add (l * te.size))) (u - l) (cap - l))) → PureOK P o st (.v (.one (.sl s'))) [] := by
    intro len l u s' _ _ hrun hrel
    refine .val0 fun w0 S m H F a w hr => ?_
    obtain ⟨base, cap, ev, hcap, hs⟩ := hrel w0 S m H F a w hr
    refine ⟨_, ?_, hs⟩
    obtain ⟨d, hd, hud⟩ := (tok t ti ht).und
    rw [hu] at hud
    cases hud
    have hb := hrun ⟨w.heap, S, m, H, F, st.loc⟩ (lo.map a.eval) (hi.map a.eval) true cap w hcap (opt_rel hr lo).1 (opt_rel hr lo).2 (opt_rel hr hi).1 (opt_rel hr hi).2
    unfold execOp
    simp only [ho, ev, Instr.sliceAt, Instr.slice, Option.map_none, Sem.run_bind, run_underlying hd, Result.andThen_ok, hb, (tok e te he).sizeOf, Sem.run_pure]
  have hs0 : ∀ w0 S m H F a w, Rel w0 S m H F st a w → slRel ⟨w.heap, S, m, H, F, st.loc⟩ s (a.eval x) := fun w0 S m H F a w hr => by
    have := ev_rel hr x
    rw [hx] at this
    exact this
  cases s with
  | nil =>
    simp only [sliceK] at h
    obtain ⟨l, u, hf, h1, h2, hrun⟩ := boundsK_some (P := P) h
    refine ⟨_, hf, mk 0 l u .nil h1 h2 hrun fun w0 S m H F a w hr => ?_⟩
    obtain ⟨base, ev⟩ := hs0 w0 S m H F a w hr
    have : l = 0 := by omega
    have : u = 0 := by omega
    subst_vars
    exact ⟨base, 0, ev, Nat.le_refl _, base, by simp⟩
  | row b =>
    simp only [sliceK, Sl.len] at h
    cases hl : st.loc[b]? with
    | none => rw [hl] at h; cases h
    | some k =>
      cases k with
      | row pin τ xs =>
        simp only [hl] at h
        obtain ⟨l, u, hf, h1, h2, hrun⟩ := boundsK_some (P := P) h
        simp only [slSz, hl] at hz
        have hsz : τ.size = te.size := Nat.eq_of_beq_eq_true hz
        refine ⟨_, hf, mk xs.length l u (.sub b l (u - l)) h1 h2 hrun fun w0 S m H F a w hr => ?_⟩
        obtain ⟨ev, _⟩ := hs0 w0 S m H F a w hr
        obtain ⟨⟨_, b1, c1, e1, h5, h6, _⟩, base, cap, eH, hbase⟩ := hr.blk b _ hl
        rw [eH] at e1
        simp only [List.cons.injEq, Value.slice.injEq, and_true, true_and] at e1
        obtain ⟨rfl, rfl⟩ := e1
        refine ⟨base, cap, ev.trans eH, h5, pin, τ, xs, hl, by omega, _, cap - l, rfl, by omega, by omega, ?_⟩
        rcases hbase with h0 | h0
        · left; omega
        · by_cases hc : cap = l
          · left; omega
          · right
            rw [if_neg hc, h0, ← hsz]
            simp [Addr.add_plain]
      | dead => simp [hl] at h
      | box cs => simp [hl] at h
  | sub b off n =>
    simp only [sliceK] at h
    obtain ⟨l, u, hf, h1, h2, hrun⟩ := boundsK_some (P := P) h
    refine ⟨_, hf, mk n l u (.sub b (off + l) (u - l)) h1 h2 hrun fun w0 S m H F a w hr => ?_⟩
    obtain ⟨pin, τ, xs, hl, hle, base, cap, ev, h3, h4, h5⟩ := hs0 w0 S m H F a w hr
    replace hl : st.loc[b]? = some (.row pin τ xs) := hl
    simp only [slSz, hl] at hz
    have hsz : τ.size = te.size := Nat.eq_of_beq_eq_true hz
    refine ⟨base, cap, ev, h3, pin, τ, xs, hl, by omega, _, cap - l, rfl, by omega, by omega, ?_⟩
    rcases h5 with h5 | h5
    · left; omega
    · by_cases hc : cap = l
      · left; omega
      · right
        rw [if_neg hc, h5, ← hsz]
        simp [Addr.add_plain, Nat.add_mul]
  | view τ xs =>
    simp only [sliceK] at h
    obtain ⟨l, u, hf, h1, h2, hrun⟩ := boundsK_some (P := P) h
    simp only [slSz] at hz
    have hsz : τ.size = te.size := Nat.eq_of_beq_eq_true hz
    refine ⟨_, hf, mk xs.length l u (.view τ ((xs.take u).drop l)) h1 h2 hrun fun w0 S m H F a w hr => ?_⟩
    have hrep : RepSl w.heap S τ.size (Rep w.heap S τ) xs [a.eval x] := hs0 w0 S m H F a w hr
    have hrep' := hrep
    obtain ⟨_, base, cap, ev, h3, h4, h5⟩ := hrep'
    simp only [List.cons.injEq, and_true] at ev
    refine ⟨base, cap, ev, h3, ?_⟩
    rw [drop_take_eq]
    rw [ev] at hrep
    refine RepSl.part l (u - l) (by omega) hrep ⟨by omega, by omega⟩ ?_
    by_cases hn : u - l = 0
    · exact .inl hn
    · right
      rcases h5 with rfl | ⟨c, off, arr, te', fz, rfl, _⟩
      · simp at h2; omega
      · refine ⟨c, off, rfl, ?_⟩
        rw [if_neg (by omega), ← hsz]
        simp [Addr.add_plain]
  | nest b i off τ xs => simp [sliceK] at h

theorem ok_slice0 {E : Tabs} (tok : TabOK P E.T) {t e : TypeId} {ti te : TI} {x h1 m1 : Operand} {s : Sl} (ho : o.op = .slice t x none (some h1) (some m1)) (ht : E.T t = some ti) (hu : ti.und = .slice e)
    (he : E.T e = some te) (hx : st.ev x = .v (.one (.sl s))) (hz : (isZero (st.ev m1) && isZero (st.ev h1)) = true) : PureOK P o st (.v (.one (.sl .nil))) [] :=
  .val0 fun w0 S m H F a w hr => by
    have isz : ∀ y : Operand, isZero (st.ev y) = true → ∃ k, a.eval y = .int k 0 := by
      intro y hy
      have hrel := ev_rel hr y
      unfold isZero at hy
      split at hy
      · rename_i k heq
        rw [heq] at hrel
        exact ⟨k, (one_of_int hrel).1⟩
      · cases hy
    rw [Bool.and_eq_true] at hz
    obtain ⟨k1, e1⟩ := isz m1 hz.1
    obtain ⟨k2, e2⟩ := isz h1 hz.2
    have hs : slRel ⟨w.heap, S, m, H, F, st.loc⟩ s (a.eval x) := by
      have := ev_rel hr x
      rw [hx] at this
      exact this
    have : ∃ base len cap, a.eval x = .slice base len cap := by
      cases s with
      | nil => obtain ⟨b, e⟩ := hs; exact ⟨b, 0, 0, e⟩
      | row b =>
        obtain ⟨e, pin, τ, xs, hl⟩ := hs
        obtain ⟨base, cap, eH⟩ := hr.hdr b pin τ xs hl
        exact ⟨base, _, cap, e.trans eH⟩
      | sub b off n => obtain ⟨_, _, _, _, _, base, cap, e, _⟩ := hs; exact ⟨base, n, cap, e⟩
      | view τ xs => obtain ⟨_, base, cap, e, _⟩ := hs; exact ⟨base, _, cap, by simpa using e⟩
      | nest b i off τ xs => obtain ⟨⟨_, base, cap, e, _⟩, _⟩ := hs; exact ⟨base, _, cap, by simpa using e⟩
    obtain ⟨base, len, cap, ev⟩ := this
    obtain ⟨d, hd, hud⟩ := (tok t ti ht).und
    rw [hu] at hud
    cases hud
    refine ⟨.slice base 0 0, ?_, base, rfl⟩
    unfold execOp
    simp [ho, ev, Instr.sliceAt, Instr.slice, run_underlying hd, Instr.sliceBounds, Instr.sliceBound, asIntOf, e1, e2, (tok e te he).sizeOf]

theorem ok_slice_str {E : Tabs} (tok : TabOK P E.T) {t : TypeId} {ti : TI} {x : Operand} {lo hi : Option Operand} {s : ByteArray} {f : Nat → Nat → Option R} (ho : o.op = .slice t x lo hi none) (ht : E.T t = some ti) (hu : ti.und = .str)
    (hx : st.ev x = .v (.one (.str s))) (h : boundsK s.size (lo.map st.ev) (hi.map st.ev) f = some r) : ∃ l u, f l u = some r ∧ PureOK P o st (.v (.one (.str (s.extract l u)))) [] := by
  obtain ⟨l, u, hf, h1, h2, hrun⟩ := boundsK_some (P := P) h
  refine ⟨l, u, hf, .val0 fun w0 S m H F a w hr => ?_⟩
  obtain ⟨ex, hm⟩ := one_of_str (hx ▸ ev_rel hr x)
  obtain ⟨d, hd, hud⟩ := (tok t ti ht).und
  rw [hu] at hud
  cases hud
  have hb := hrun ⟨w.heap, S, m, H, F, st.loc⟩ (lo.map a.eval) (hi.map a.eval) false s.size w (Nat.le_refl _) (opt_rel hr lo).1 (opt_rel hr lo).2 (opt_rel hr hi).1 (opt_rel hr hi).2
  refine ⟨.string (s.extract l u), ?_, rfl, ?_⟩
  · unfold execOp
    simp [ho, ex, Instr.sliceAt, Instr.slice, run_underlying hd, hb]
  · simp only [ByteArray.size_extract]; omega

theorem len_rel {Γ : Ctx} {s : Sl} {n : Nat} {v : Value} (hb : ∀ b k, Γ.loc[b]? = some k → blkRel Γ b k) (hl : s.len Γ.loc = some n) (hs : slRel Γ s v) : (∃ base cap, v = .slice base n cap) ∧ n ≤ maxLen := by
  cases s with
  | nil => obtain ⟨b, e⟩ := hs; cases hl; exact ⟨⟨b, 0, e⟩, Nat.zero_le _⟩
  | row b =>
    obtain ⟨e, pin, τ, xs, hlo⟩ := hs
    simp only [Sl.len, hlo, Option.some.injEq] at hl
    obtain ⟨⟨hm, _⟩, base, cap, eH, _⟩ := hb b _ hlo
    subst hl
    exact ⟨⟨base, cap, e.trans eH⟩, hm⟩
  | sub b off k =>
    obtain ⟨_, _, _, _, _, base, cap, e, h1, h2, _⟩ := hs
    cases hl
    exact ⟨⟨base, cap, e⟩, by omega⟩
  | view τ xs => obtain ⟨hm, base, cap, e, _⟩ := hs; cases hl; exact ⟨⟨base, cap, by simpa using e⟩, hm⟩
  | nest b i off τ xs => obtain ⟨⟨hm, base, cap, e, _⟩, _⟩ := hs; cases hl; exact ⟨⟨base, cap, by simpa using e⟩, hm⟩

theorem evs_one {w0 : W0} {w : World} {S : Nat → Prop} {m : Nat → Nat} {H : Nat → Value} {F : Nat → Nat → Prop} {a : Act} (hr : Rel w0 S m H F st a w) {args : Array Operand} {x : FV} (h : evs st args.toList = [x]) :
    ∃ v, args.map a.eval = #[v] ∧ fvRel ⟨w.heap, S, m, H, F, st.loc⟩ x v := by
  have := evs_rel hr args.toList
  rw [h] at this
  generalize hl : args.toList.map a.eval = l at this
  cases this with
  | cons h1 t =>
    cases t
    refine ⟨_, ?_, h1⟩
    apply Array.ext'
    rw [Array.toList_map, hl]

theorem inR_len {n : Nat} (h : n ≤ maxLen) : inR .i64 (n : Int) := by
  simp only [maxLen] at h
  refine ⟨?_, ?_⟩
  · show -(2 ^ 63 : Int) ≤ _; omega
  · show _ ≤ (2 ^ 63 - 1 : Int); omega

theorem ok_len_slice {E : Tabs} (tok : TabOK P E.T) {c : Call} {t e : TypeId} {ti : TI} {s : Sl} {n : Nat} (ho : o.op = .call c) (hc : c.callee = .builtin .len) (hat : c.argTypes[0]? = some t) (ht : E.T t = some ti) (hu : ti.und = .slice e)
    (hx : evs st c.args.toList = [.v (.one (.sl s))]) (hl : s.len st.loc = some n) : PureOK P o st (.v (.one (.int .i64 (n : Int)))) [] :=
  .val0 fun w0 S m H F a w hr => by
    obtain ⟨v, ea, hv⟩ := evs_one hr hx
    obtain ⟨⟨base, cap, rfl⟩, hm⟩ := len_rel (Γ := ⟨w.heap, S, m, H, F, st.loc⟩) hr.blk hl hv
    obtain ⟨d, hd, hud⟩ := (tok t ti ht).und
    rw [hu] at hud
    cases hud
    refine ⟨.int .i64 n, ?_, rfl, inR_len hm⟩
    unfold execOp
    simp [ho, resolve, hc, ea, invoke, builtin, Builtin.len_, hat, run_underlying hd, goInt]

theorem ok_len_str {E : Tabs} (tok : TabOK P E.T) {c : Call} {t : TypeId} {ti : TI} {s : ByteArray} (ho : o.op = .call c) (hc : c.callee = .builtin .len) (hat : c.argTypes[0]? = some t) (ht : E.T t = some ti) (hu : ti.und = .str)
    (hx : evs st c.args.toList = [.v (.one (.str s))]) : PureOK P o st (.v (.one (.int .i64 (s.size : Int)))) [] :=
  .val0 fun w0 S m H F a w hr => by
    obtain ⟨v, ea, hv⟩ := evs_one hr hx
    obtain ⟨rfl, hm⟩ := one_of_str hv
    obtain ⟨d, hd, hud⟩ := (tok t ti ht).und
    rw [hu] at hud
    cases hud
    refine ⟨.int .i64 s.size, ?_, rfl, inR_len hm⟩
    unfold execOp
    simp [ho, resolve, hc, ea, invoke, builtin, Builtin.len_, hat, run_underlying hd, goInt]

theorem fmm_rel (isMax : Bool) {k : FloatKind} {x y b c : Nat} (hx : FRel k x b) (hy : FRel k y c) (w : World) :
    ∃ r n, ((bif isMax then Builtin.max2 else Builtin.min2) (.float k b) (.float k c)).run P w = .ok (.float k r) { w with drawn := n } ∧ FRel k (match isMax with | true => fmax k x y | false => fmin k x y) r := by
  have ho := order_rel hx hy
  cases hor : k.format.order b c with
  | none =>
    obtain ⟨h1, h2⟩ := cut_nan k (.nanMinMax k isMax b c) (w.tape w.drawn (.nanMinMax k isMax b c)) b c (.inr (.inr ⟨isMax, rfl⟩))
    refine ⟨(Question.nanMinMax k isMax b c).cut (w.tape w.drawn (.nanMinMax k isMax b c)), w.drawn + 1, ?_, ?_⟩
    · cases isMax <;> simp [Builtin.max2, Builtin.min2, hor, Question.forced]
    · cases isMax <;> simp only [fmax, fmin, ← ho, hor] <;> exact FRel.of_nan h1 h2
  | some od =>
    have hnx : isNan k x = false := by
      cases hn : isNan k x
      · rfl
      · rw [ho, order_nan_left hn] at hor; cases hor
    have hny : isNan k y = false := by
      cases hn : isNan k y
      · rfl
      · rw [ho, order_nan_right hn] at hor; cases hor
    have ex := hx.eq hnx
    have ey := hy.eq hny
    subst ex ey
    cases isMax <;> cases od <;> simp only [fmax, fmin, hor, cond_true, cond_false, Builtin.max2, Builtin.min2]
    · exact ⟨b, w.drawn, by simp, hx⟩
    · cases hng : (k.decode b).neg
      · exact ⟨c, w.drawn, by simp, hy⟩
      · exact ⟨b, w.drawn, by simp, hx⟩
    · exact ⟨c, w.drawn, by simp, hy⟩
    · exact ⟨c, w.drawn, by simp, hy⟩
    · cases hng : (k.decode b).neg
      · exact ⟨b, w.drawn, by simp, hx⟩
      · exact ⟨c, w.drawn, by simp, hy⟩
    · exact ⟨b, w.drawn, by simp, hx⟩

theorem minmaxK_rel {Γ : Ctx} {isMax : Bool} {c d e : C} {u v : Value} (h : minmaxK isMax c d = some e) (hu : cRel Γ c u) (hv : cRel Γ d v) (w : World) :
    ∃ x n, ((bif isMax then Builtin.max2 else Builtin.min2) u v).run P w = .ok x { w with drawn := n } ∧ cRel Γ e x := by
  unfold minmaxK at h
  split at h
  · rename_i k a k' b
    split at h
    · rename_i hk
      cases h
      subst hk
      obtain ⟨rfl, ha⟩ := hu
      obtain ⟨rfl, hb⟩ := hv
      cases isMax
      · refine ⟨.int k (if b < a then b else a), w.drawn, by simp [Builtin.min2], ?_, ?_⟩
        · show Value.int k _ = Value.int k (min a b)
          congr 1
          rw [Int.min_def]
          split <;> split <;> omega
        · unfold inR at *; show k.min ≤ min a b ∧ min a b ≤ k.max; rw [Int.min_def]; split <;> omega
      · refine ⟨.int k (if b > a then b else a), w.drawn, by simp [Builtin.max2], ?_, ?_⟩
        · show Value.int k _ = Value.int k (max a b)
          congr 1
          rw [Int.max_def]
          split <;> split <;> omega
        · unfold inR at *; show k.min ≤ max a b ∧ max a b ≤ k.max; rw [Int.max_def]; split <;> omega
    · cases h
  · rename_i k a k' b
    split at h
    · cases h
      subst_vars
      obtain ⟨x, rfl, ha⟩ := hu
      obtain ⟨y, rfl, hb⟩ := hv
      obtain ⟨r, n, hrun, hrel⟩ := fmm_rel (P := P) isMax ha hb w
      exact ⟨.float _ r, n, hrun, r, rfl, hrel⟩
    · cases h
  · cases h

theorem foldC_rel {Γ : Ctx} {isMax : Bool} : ∀ {l : List FV} {c e : C} {u : Value} {vs : List Value} {n0 : Nat}, foldC (minmaxK isMax) c l = some e → cRel Γ c u → All2 (fvRel Γ) l vs → ∀ w : World,
    ∃ x n, (vs.foldlM (bif isMax then Builtin.max2 else Builtin.min2) u).run P { w with drawn := n0 } = .ok x { w with drawn := n } ∧ cRel Γ e x
  | [], c, e, u, vs, n0, h, hu, ha, w => by
    cases h
    cases ha
    exact ⟨u, n0, rfl, hu⟩
  | .v (.one d) :: r, c, e, u, vs, n0, h, hu, ha, w => by
    cases ha with
    | cons h1 t =>
      rename_i b m
      simp only [foldC] at h
      split at h
      · rename_i e' he'
        obtain ⟨x, n, hrun, hrel⟩ := minmaxK_rel (P := P) he' hu (show cRel Γ d b from h1) { w with drawn := n0 }
        obtain ⟨y, n', hrun', hrel'⟩ := foldC_rel (n0 := n) h hrel t w
        refine ⟨y, n', ?_, hrel'⟩
        rw [List.foldlM_cons, Sem.run_bind, hrun]
        exact hrun'
      · cases h
  | .v (.agg _) :: _, _, _, _, _, _, h, _, _, _ => by cases h
  | .undef :: _, _, _, _, _, _, h, _, _, _ => by cases h
  | .tup _ :: _, _, _, _, _, _, h, _, _, _ => by cases h

theorem ok_minmax {c : Call} (isMax : Bool) {x y : C} {rest : List FV} (ho : o.op = .call c) (hc : c.callee = .builtin (bif isMax then .max else .min)) (hx : evs st c.args.toList = .v (.one x) :: rest) (hf : foldC (minmaxK isMax) x rest = some y) :
    PureOK P o st (.v (.one y)) [] :=
  .val fun w0 S m H F a w hr => by
    have hall := evs_rel hr c.args.toList
    rw [hx] at hall
    generalize hl : c.args.toList.map a.eval = l at hall
    cases hall with
    | cons h1 t =>
      rename_i u us
      obtain ⟨v, n, hrun, hrel⟩ := foldC_rel (P := P) (n0 := w.drawn) hf (show cRel ⟨w.heap, S, m, H, F, st.loc⟩ x u from h1) t w
      refine ⟨v, n, ?_, hrel⟩
      have ea : (c.args.map a.eval).toList = u :: us := by rw [Array.toList_map, hl]
      unfold execOp
      cases isMax
      · simp only [cond_false] at hrun hc
        simp only [ho, resolve, hc, invoke, builtin, Builtin.min_, ea, Sem.run_bind, Sem.run_pure, Result.andThen_ok, hrun]
      · simp only [cond_true] at hrun hc
        simp only [ho, resolve, hc, invoke, builtin, Builtin.max_, ea, Sem.run_bind, Sem.run_pure, Result.andThen_ok, hrun]

end
end Go.Fw
