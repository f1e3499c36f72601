/- From a given row to a function's model. No condition. -/
import Derived.Test.YtcbpdhhipkdofaaFwFun
import Derived.ProofKit
import Derived.Deep.Slices
namespace Go.Fw
open Go.ChangeShapes Go.WideShapes Go.ChangeAt Go.RowKit

/-! ### types of the program as types of data -/
def sizeIs (T : Tab) (t : TypeId) (n : Nat) : Bool := match T t with
  | some ti => Nat.beq ti.size n
  | none => false

def fldB (T : Tab) (f : TypeId → Ty → Bool) : Nat → List (Nat × TypeId) → Ty → Bool
  | _, [], .unit => true
  | off, (o, t) :: r, .pair a b => Nat.beq o off && sizeIs T t a.size && f t a && fldB T f (off + a.size) r b
  | _, _, _ => false

def arrB (f : Ty → Bool) : Nat → Ty → Ty → Bool
  | 0, _, .unit => true
  | n + 1, e, .pair a b => decide (a = e) && f a && arrB f n e b
  | _, _, _ => false

def tyB (T : Tab) : Nat → TypeId → Ty → Bool
  | 0, _, _ => false
  | n + 1, t, τ => match T t with
    | none => false
    | some ti => match ti.und, τ with
      | .int k, .int k' => decide (k = k')
      | .flt k, .flt k' => decide (k = k')
      | .bool, .bool => true
      | .str, .str => true
      | .slice e, .slice τ' => sizeIs T e τ'.size && Nat.blt 0 τ'.size && tyB T n e τ'
      | .struct fs, τ => Nat.beq ti.size τ.size && fldB T (tyB T n) 0 fs τ
      | _, _ => false

theorem sizeIs_spec {P : Program} {T : Tab} (ok : TabOK P T) {t : TypeId} {n : Nat} (h : sizeIs T t n = true) : P.cellsOf t = n := by
  unfold sizeIs at h
  split at h
  · rename_i ti ht
    obtain ⟨i, hi, hs, _⟩ := (ok t ti ht).info
    unfold Program.cellsOf
    rw [hi]
    simp only [Option.map_some, Option.getD_some]
    rw [hs]; exact Nat.eq_of_beq_eq_true h
  · cases h

section open_
variable {H : Type} {enc : TypeId × Value → H} {P : Program} {w : World} {held : Bool} {T : Tab}

theorem cell?_at {a : Addr} {v : Value} (h : w.cell? a = some v) : ∃ arr te fz, a.spot = none ∧ w.heap[a.block]? = some (.cells arr te fz) ∧ arr[a.off]? = some v := by
  unfold World.cell? at h
  split at h
  · rename_i c te fz hg
    split at h
    · cases h
    · rename_i hs
      exact ⟨c, te, fz, by simpa using hs, hg, h⟩
  · cases h

theorem add_block (a : Addr) (k : Nat) : (a.add k).block = a.block ∧ (a.add k).off = a.off + k := by
  unfold Addr.add
  split
  · rename_i h; subst h; exact ⟨rfl, rfl⟩
  · exact ⟨rfl, rfl⟩

theorem exists_list {α : Type} {R : Nat → α → Prop} : ∀ {n : Nat}, (∀ i, i < n → ∃ y, R i y) → ∃ l : List α, l.length = n ∧ ∀ i y, l[i]? = some y → R i y
  | 0, _ => ⟨[], rfl, fun i y h => by simp at h⟩
  | n + 1, h => by
    obtain ⟨l, hl, hr⟩ := exists_list (n := n) fun i hi => h i (by omega)
    obtain ⟨y, hy⟩ := h n (by omega)
    refine ⟨l ++ [y], by simp [hl], fun i z hz => ?_⟩
    rcases Nat.lt_or_ge i n with hlt | hge
    · rw [List.getElem?_append_left (by omega)] at hz; exact hr i z hz
    · rw [List.getElem?_append_right (by omega)] at hz
      have : i = n := by
        have := (List.getElem?_eq_some_iff.1 hz).1
        simp at this; omega
      subst this
      simp [hl] at hz
      subst hz
      exact hy

theorem fld_rep (ok : TabOK P T) {f : TypeId → Ty → Bool} {n : Nat} (hf : ∀ t τ cs x, f t τ = true → DataW.trod enc P w 0 (fun _ => true) held n t cs = some x → ∃ y : τ.D, Rep w.heap (fun c => c < w.heap.size) τ y cs) {cs : List Value} :
    ∀ (fs : List Field) (off : Nat) (τ : Ty), fldB T f off (fs.map fun f => (f.offset, f.type)) τ = true → (∀ g, g ∈ fs → ∃ x, DataW.trod enc P w 0 (fun _ => true) held n g.type ((cs.drop g.offset).take (P.cellsOf g.type)) = some x) →
      (cs.drop off).length = τ.size → ∃ y : τ.D, Rep w.heap (fun c => c < w.heap.size) τ y (cs.drop off)
  | [], off, τ, h, _, hl => by
    cases τ <;> simp [fldB] at h
    exact ⟨(), List.eq_nil_of_length_eq_zero hl⟩
  | g :: r, off, τ, h, hr, hl => by
    cases τ <;> simp only [List.map_cons, fldB, Bool.and_eq_true, Bool.false_eq_true] at h
    rename_i a b
    obtain ⟨⟨⟨h1, h2⟩, h3⟩, h4⟩ := h
    have h1 := Nat.eq_of_beq_eq_true h1
    have h2 := sizeIs_spec ok h2
    obtain ⟨x, hx⟩ := hr g (.head _)
    rw [h1, h2] at hx
    obtain ⟨y, hy⟩ := hf g.type a _ x h3 hx
    replace hl : (cs.drop off).length = a.size + b.size := hl
    obtain ⟨z, hz⟩ := fld_rep ok hf r (off + a.size) b h4 (fun g hg => hr g (.tail _ hg)) (by rw [← List.drop_drop, List.length_drop]; omega)
    refine ⟨(y, z), (cs.drop off).take a.size, cs.drop (off + a.size), ?_, hy, hz⟩
    rw [← List.drop_drop, List.take_append_drop]

theorem wf_float {k : FloatKind} {b : Nat} (h : (Lit.float k b).wf = true) : b < 2 ^ k.format.width := by
  cases k
  · have e : FloatKind.f32.format.width = 32 := rfl
    rw [e]; simpa [Lit.wf] using h
  · have e : FloatKind.f64.format.width = 64 := rfl
    rw [e]; simpa [Lit.wf] using h

/-- What an argument reads as is data. -/
theorem trod_rep (ok : TabOK P T) : ∀ (n : Nat) (t : TypeId) (τ : Ty), tyB T n t τ = true → ∀ (fuel : Nat) (cs : List Value) (x : DataW H × List MemPlace), DataW.trod enc P w 0 (fun _ => true) held fuel t cs = some x →
    ∃ y : τ.D, Rep w.heap (fun c => c < w.heap.size) τ y cs
  | 0, _, _, h => by cases h
  | n + 1, t, τ, h => by
    intro fuel cs x hx
    simp only [tyB] at h
    split at h
    · cases h
    · rename_i ti ht
      obtain ⟨d, hd, hu⟩ := (ok t ti ht).und
      split at h
      · rename_i k k' hui
        rw [hui] at hu
        cases hu
        have hk : k = k' := by simpa using h
        subst hk
        obtain ⟨m, rfl, _, hwf⟩ := DataW.trod_int hd hx
        simp only [Lit.wf, Bool.and_eq_true, decide_eq_true_eq] at hwf
        exact ⟨m, rfl, hwf⟩
      · rename_i k k' hui
        rw [hui] at hu
        cases hu
        have hk : k = k' := by simpa using h
        subst hk
        have hb : ∃ b, cs = [.float k b] ∧ b < 2 ^ k.format.width := by
          cases fuel with
          | zero => simp [DataW.trod] at hx
          | succ m =>
            unfold DataW.trod at hx
            rw [hd] at hx
            split at hx <;> simp_all
            obtain ⟨⟨rfl, hw⟩, _⟩ := hx
            exact wf_float hw
        obtain ⟨b, rfl, hlt⟩ := hb
        exact ⟨canon k b, b, rfl, FRel.mk' hlt⟩
      · rename_i hui
        rw [hui] at hu
        cases hu
        obtain ⟨b, rfl, _⟩ := DataW.trod_bool hd hx
        exact ⟨b, rfl⟩
      · rename_i hui
        rw [hui] at hu
        cases hu
        obtain ⟨s, rfl, _, hs⟩ := DataW.trod_string hd hx
        exact ⟨s, rfl, hs⟩
      · rename_i e τ' hui
        rw [hui] at hu
        cases hu
        simp only [Bool.and_eq_true] at h
        obtain ⟨⟨h1, h2⟩, h3⟩ := h
        have h1 := sizeIs_spec ok h1
        have h2 : 0 < τ'.size := by simpa [Nat.blt_eq] using h2
        rcases Deep.open_slice hd hx with ⟨rfl, _⟩ | ⟨a, len, cap, m, n', D, Pl, rfl, _, hlc, hcm, hm, _, hel⟩
        · exact ⟨[], by simp, none, 0, rfl, Nat.le_refl _, by simp, .inl rfl⟩
        · simp only [if_true] at hm
          rw [h1] at hel
          have each : ∀ i, i < len → ∃ y : τ'.D, ∃ cs', w.cells? 0 (a.add (i * τ'.size)) τ'.size = some cs' ∧ Rep w.heap (fun c => c < w.heap.size) τ' y cs' := fun i hi => by
            obtain ⟨cs', hc, ht'⟩ := hel i (by omega)
            obtain ⟨y, hy⟩ := trod_rep ok n e τ' h3 n' cs' _ ht'
            exact ⟨y, cs', hc, hy⟩
          obtain ⟨ys, hyl, hys⟩ := exists_list each
          have cellAt : ∀ i, i < len → ∀ cs', w.cells? 0 (a.add (i * τ'.size)) τ'.size = some cs' → ∀ j, j < τ'.size → ∃ v arr te fz, cs'[j]? = some v ∧ (a.add (i * τ'.size + j)).spot = none ∧ w.heap[a.block]? = some (.cells arr te fz) ∧ arr[a.off + (i * τ'.size + j)]? = some v := by
            intro i hi cs' hc j hj
            obtain ⟨_, hl, hcell⟩ := World.cells?_some hc
            have h5 := hcell j hj
            rw [Deep.add_add, List.getElem?_eq_getElem (by omega)] at h5
            obtain ⟨arr, te, fz, g1, g2, g3⟩ := cell?_at h5
            rw [(add_block a _).1] at g2
            rw [(add_block a _).2] at g3
            exact ⟨_, arr, te, fz, List.getElem?_eq_getElem (by omega), g1, g2, g3⟩
          refine ⟨ys, by rw [hyl]; omega, some a, cap, by rw [hyl], by omega, hcm, ?_⟩
          rcases Nat.eq_zero_or_pos len with h0 | hpos
          · left
            exact List.eq_nil_of_length_eq_zero (by omega)
          · right
            have hget : ∀ i, i < len → ∃ cs', w.cells? 0 (a.add (i * τ'.size)) τ'.size = some cs' := fun i hi => by
              obtain ⟨_, cs', hc, _⟩ := each i hi
              exact ⟨cs', hc⟩
            obtain ⟨c0, hc0⟩ := hget 0 hpos
            obtain ⟨v0, arr, te, fz, _, hsp, hg, _⟩ := cellAt 0 hpos c0 hc0 0 h2
            have hsp' : a.spot = none := by simpa [Addr.add] using hsp
            have same : ∀ arr' te' fz', w.heap[a.block]? = some (.cells arr' te' fz') → arr' = arr := fun arr' te' fz' hg' => by
              rw [hg] at hg'
              simp only [Option.some.injEq, Obj.cells.injEq] at hg'
              exact hg'.1.symm
            have hblt : a.block < w.heap.size := (Array.getElem?_eq_some_iff.1 hg).1
            have hsize : a.off + len * τ'.size ≤ arr.size := by
              obtain ⟨cl, hcl⟩ := hget (len - 1) (by omega)
              obtain ⟨v, arr', te', fz', _, _, hg', hv⟩ := cellAt (len - 1) (by omega) cl hcl (τ'.size - 1) (by omega)
              have := same arr' te' fz' hg'
              subst this
              have hlt := (Array.getElem?_eq_some_iff.1 hv).1
              have e1 : len * τ'.size = (len - 1) * τ'.size + τ'.size := by
                conv => lhs; rw [show len = len - 1 + 1 by omega]
                rw [Nat.add_mul, Nat.one_mul]
              omega
            refine ⟨a.block, a.off, arr, te, fz, ?_, hblt, hg, by rw [hyl]; exact hsize, fun i y hi => ?_⟩
            · cases a
              simp only at hsp'
              rw [hsp']
            · have hilt : i < len := by rw [← hyl]; exact (List.getElem?_eq_some_iff.1 hi).1
              obtain ⟨cs', hc, hr⟩ := hys i y hi
              have : win arr (a.off + i * τ'.size) τ'.size = cs' := by
                apply List.ext_getElem?
                intro j
                have hl' := (World.cells?_some hc).2.1
                rw [win_get]
                split
                · rename_i hj
                  obtain ⟨v, arr', te', fz', h6, _, hg', hv⟩ := cellAt i hilt cs' hc j hj
                  have := same arr' te' fz' hg'
                  subst this
                  rw [h6, ← hv, show a.off + i * τ'.size + j = a.off + (i * τ'.size + j) by omega]
                  simp
                · rw [List.getElem?_eq_none (by omega)]
              rw [this]; exact hr
      · rename_i τ _ _ fs hui
        rw [hui] at hu
        obtain ⟨l, rfl, hfs⟩ := hu
        simp only [Bool.and_eq_true] at h
        obtain ⟨h1, h2⟩ := h
        have h1 := Nat.eq_of_beq_eq_true h1
        obtain ⟨xs, m, rfl, rfl, hlen, hxl, hx⟩ := DataW.trod_struct hd hx
        have hcl : P.cellsOf t = τ.size := by
          obtain ⟨i, hi, hs, _⟩ := (ok t ti ht).info
          unfold Program.cellsOf
          rw [hi]
          simp only [Option.map_some, Option.getD_some]
          omega
        have := fld_rep (cs := cs) ok (n := m) (fun t τ cs x ht hx => trod_rep ok n t τ ht m cs x hx) l.toList 0 τ (by rw [hfs]; exact h2) (fun g hg => by
          obtain ⟨i, hi⟩ := List.getElem?_of_mem hg
          have hi' : l[i]? = some g := by simpa using hi
          have hilt : i < xs.length := by rw [hxl]; exact (Array.getElem?_eq_some_iff.1 hi').1
          exact ⟨xs[i], by rw [hx i g hi', List.getElem?_eq_getElem hilt]⟩) (by rw [List.drop_zero]; omega)
        simpa using this
      · cases h

/-! ### arguments -/
def roP : PTy → Bool
  | .ro _ _ => true
  | _ => false

/-- The parameters' types, as read-only data. -/
def parB (T : Tab) (n : Nat) : List TypeId → List PTy → Bool
  | [], [] => true
  | t :: ts, .ro ag τ :: ps => tyB T n t τ && (match T t with | some ti => ti.und.agg == ag | none => false) && parB T n ts ps
  | _, _ => false

theorem cellOk_one {r : Reach} {b0 : Nat} {t : TypeId} {v : Value} (h : Cell.okWide P w r b0 t v) : v.oneCell' = true := by
  cases v <;> first | rfl | (exfalso; unfold Cell.okWide Cell.ok at h; split at h <;> simp_all)

theorem args_rep (ok : TabOK P T) {n : Nat} : ∀ (ts : List TypeId) (ps : List PTy) (vs : List Value) (ds : List (DataW H)) (p : List MemPlace), parB T n ts ps = true → DataW.TrodAll enc P w 0 (fun _ => true) true ts vs ds p →
    (∀ (j : Nat) t v, ts[j]? = some t → vs[j]? = some v → ∃ r b0, Value.okWide P w r b0 t v) → ∃ xs : PD ps, ArgsRel w.heap (fun c => c < w.heap.size) ps xs vs (fun _ => False)
  | [], [], vs, ds, p, _, h, _ => by
    cases vs with
    | nil => exact ⟨(), rfl⟩
    | cons v vs => cases ds <;> cases h
  | [], _ :: _, _, _, _, h, _, _ => by cases h
  | _ :: _, [], _, _, _, h, _, _ => by cases h
  | t :: ts, q :: ps, vs, ds, p, h, ht, hv => by
    cases q <;> simp only [parB, Bool.and_eq_true, Bool.false_eq_true] at h
    rename_i ag τ
    obtain ⟨⟨h1, h2⟩, h3⟩ := h
    cases vs with
    | nil => cases ds <;> cases ht
    | cons v vs =>
      cases ds with
      | nil => cases ht
      | cons d ds =>
        obtain ⟨p1, p2, ⟨fuel, hd⟩, hrest, _⟩ := ht
        obtain ⟨y, hy⟩ := trod_rep ok n t τ h1 fuel _ _ hd
        obtain ⟨ys, hys⟩ := args_rep ok ts ps vs ds p2 h3 hrest fun j t' v' ht' hv' => hv (j + 1) t' v' (by simpa using ht') (by simpa using hv')
        refine ⟨(y, ys), v, vs, fun _ => False, fun _ => False, rfl, ?_, hys, fun _ h => h, fun _ h => h, fun _ h => h.elim⟩
        obtain ⟨r, b0, hok⟩ := hv 0 t v rfl rfl
        split at h2
        · rename_i ti hti
          obtain ⟨dsc, hdsc, hu⟩ := (ok t ti hti).und
          have hag : ti.und.agg = ag := by simpa using h2
          have hagd := undRel_agg hu
          unfold Value.okWide at hok
          rw [hdsc] at hok
          cases ag
          · have hone : v.oneCell' = true := by
              cases dsc <;> simp only [aggD] at hagd <;> first | exact cellOk_one hok | (rw [hag] at hagd; cases hagd)
            refine ⟨?_, hone⟩
            have : v.cells.toList = [v] := by cases v <;> simp [Value.oneCell'] at hone <;> rfl
            rw [this] at hy
            exact hy
          · have hagg : ∃ arr, v = .agg arr := by
              cases dsc <;> simp only [aggD] at hagd <;> first | (obtain ⟨cs, e, _⟩ := hok; exact ⟨cs, e⟩) | (rw [hag] at hagd; cases hagd)
            obtain ⟨arr, rfl⟩ := hagg
            exact ⟨arr, rfl, hy⟩
        · cases h2

theorem trodAll_below {W W' : World} (hl : laidOutB P = true) (hb : Below W.heap.size W W') : ∀ {ts : List TypeId} {vs : List Value} {ds : List (DataW H)} {ps : List MemPlace}, (∀ t, t ∈ ts → P.readableRec t = true ∧ t < P.types.size) →
    DataW.TrodAll enc P W 0 (fun _ => true) true ts vs ds ps → (∀ x ∈ ps, x.block < W.heap.size) → DataW.TrodAll enc P W' 0 (fun b => decide (b < W.heap.size)) true ts vs ds ps
  | [], vs, ds, ps, _, h, _ => by
    cases vs with
    | nil => cases ds with
      | nil => exact h
      | cons d ds => cases h
    | cons v vs => cases ds <;> cases h
  | t :: ts, vs, ds, ps, hr, h, hlt => by
    cases vs with
    | nil => cases ds <;> cases h
    | cons v vs =>
      cases ds with
      | nil => cases h
      | cons d ds =>
        obtain ⟨p, q, h1, h2, rfl⟩ := h
        obtain ⟨r1, r2⟩ := hr t (.head _)
        exact ⟨p, q, Below.trod hl r1 r2 h1 hb fun x hx => hlt x (by simp [hx]), trodAll_below hl hb (fun t ht => hr t (.tail _ ht)) h2 fun x hx => hlt x (by simp [hx]), rfl⟩

end open_

/-- What the variables hold that a function value has with it. -/
def okTs : (l : List Ty) → TysD l → Prop
  | [], _ => True
  | τ :: r, x => τ.ok x.1 ∧ okTs r x.2

theorem caps_ok {h : Heap} {S : Nat → Prop} : ∀ (l : List Ty) (x : TysD l) (vs : List Value), CapsRel h S l x vs → okTs l x
  | [], _, _, _ => trivial
  | τ :: r, x, vs, h => by
    obtain ⟨v, vr, rfl, ⟨_, _, _, _, _, _, _, _, _, h1⟩, h2⟩ := h
    exact ⟨Rep.ok τ _ _ h1, caps_ok r x.2 vr h2⟩

/-- The data keep within their bounds. -/
def okPs : (ps : List PTy) → PD ps → Prop
  | [], _ => True
  | .ro _ τ :: r, x => τ.ok x.1 ∧ okPs r x.2
  | .rptr τ :: r, x => τ.ok x.1 ∧ okPs r x.2
  | .fnc _ ts :: r, x => okTs ts x.1 ∧ okPs r x.2
  | .own _ τ :: r, x => τ.ok x.1 ∧ okPs r x.2
  | .optr _ :: r, x => okPs r x.2

theorem args_ok {h : Heap} {S : Nat → Prop} : ∀ (ps : List PTy) (xs : PD ps) (vs : List Value) (F : Nat → Prop), ArgsRel h S ps xs vs F → okPs ps xs
  | [], _, _, _, _ => trivial
  | .ro ag τ :: r, xs, vs, F, ha => by
    obtain ⟨v, vr, F1, F2, rfl, h1, h2, _⟩ := ha
    refine ⟨?_, args_ok r xs.2 vr F2 h2⟩
    cases ag
    · exact Rep.ok τ _ _ h1.1
    · obtain ⟨arr, _, h1⟩ := h1
      exact Rep.ok τ _ _ h1
  | .rptr τ :: r, xs, vs, F, ha => by
    obtain ⟨v, vr, F1, F2, rfl, ⟨_, _, _, _, _, _, _, _, _, h1⟩, h2, _⟩ := ha
    exact ⟨Rep.ok τ _ _ h1, args_ok r xs.2 vr F2 h2⟩
  | .fnc _ ts :: r, xs, vs, F, ha => by
    obtain ⟨v, vr, F1, F2, rfl, ⟨_, _, h1⟩, h2, _⟩ := ha
    exact ⟨caps_ok ts _ _ h1, args_ok r xs.2 vr F2 h2⟩
  | .own ag τ :: r, xs, vs, F, ha => by
    obtain ⟨v, vr, F1, F2, rfl, h1, h2, _⟩ := ha
    refine ⟨?_, args_ok r xs.2 vr F2 h2⟩
    cases ag
    · exact Own.ok τ _ _ _ h1.1
    · obtain ⟨arr, _, h1⟩ := h1
      exact Own.ok τ _ _ _ h1
  | .optr _ :: r, xs, vs, F, ha => by obtain ⟨v, vr, F1, F2, rfl, h1, h2, _⟩ := ha; exact args_ok r xs.2 vr F2 h2

theorem parB_ro {T : Tab} {n : Nat} : ∀ {ts : List TypeId} {ps : List PTy}, parB T n ts ps = true → roOnly ps = true ∧ ps.length = ts.length
  | [], [], _ => ⟨rfl, rfl⟩
  | [], _ :: _, h => by cases h
  | _ :: _, [], h => by cases h
  | t :: ts, q :: ps, h => by
    cases q <;> simp only [parB, Bool.and_eq_true, Bool.false_eq_true] at h
    obtain ⟨h1, h2⟩ := parB_ro h.2
    exact ⟨h1, by simp [h2]⟩

/-- **A law's call**: it answers true, and its arguments read as they did. -/
theorem law_calls {P : Program} {E : Tabs} (ok : EnvOK P E) (laid : laidOutB P = true) {k : FuncId} {fn : Func} {c : Code} {L : Nat → Option LP} {ps : List PTy} {spec : ChangeSpec} {H : Type} {enc : TypeId × Value → H} {n : Nat} {tb : TypeId}
    (hf : P.funcs[k]? = some fn) (hbody : fn.body = some c) (hpar : parB E.T n fn.params.toList ps = true) (hsz : ps.length ≤ fn.ntmps) (hL : LoopsOK E L fn.ntmps c) (hvars : spec.vars = [])
    (hspec : ∀ ds : List (DataW H), ds.length = ps.length → spec.fn H ds = { results := [.lit (.bool true)], args := ds }) (hres : fn.resultTypes = #[tb]) (htb : P.underlying tb = some .bool)
    (hread : fn.params.toList.all (fun t => P.readableRec t && decide (t < P.types.size)) = true) (heval : ∀ ds : PD ps, okPs ps ds → evalF E L fn ps (.one false .bool) ds = some true)
    {W : World} {base : Nat} {args : Array Value} {ds gs : List (DataW H)} {before : List MemPlace} (hval : ∀ (j : Nat) t v, fn.params[j]? = some t → args[j]? = some v → Value.okWide P W .any base t v)
    (hW : DataW.Whole enc P fn.params.toList spec.vars false W args.toList ds gs before) : Calls P k args W fun e W' => ∃ v, e = .returned v ∧ spec.post enc P fn false true false false W args v W' := by
  have hW' := hW
  have hlt := hW.lt
  obtain ⟨p, q, hA, hV, rfl, _, _⟩ := hW
  rw [hvars] at hV
  have hgs : gs = [] ∧ q = [] := by
    cases gs with
    | nil => exact ⟨rfl, hV⟩
    | cons g gs => cases hV
  obtain ⟨rfl, rfl⟩ := hgs
  obtain ⟨xs, hxs⟩ := args_rep ok.tab _ _ _ _ _ hpar hA fun j t v ht hv => ⟨.any, base, hval j t v (by simpa using ht) (by simpa using hv)⟩
  obtain ⟨hro, hpl⟩ := parB_ro hpar
  have := calls_of_eval (fm := { ps := ps, res := .one false .bool, run := fun _ => none }) ok hf hbody hro rfl hsz hL hxs (heval xs (args_ok ps xs _ _ hxs))
  refine Calls.mono (by simpa using this) ?_
  rintro e W' ⟨v, rfl, hext, F, ⟨cs, _, hcs, hown⟩, _⟩
  have hv : v = .bool true := by
    have h1 := hcs rfl
    subst h1
    have h2 : [v] = [.bool true] := hown
    simpa using h2
  subst hv
  have hb : Below W.heap.size W W' := ⟨hext.os, hext.tape, hext.output, hext.size, hext.heap⟩
  have hlen : ds.length = ps.length := by
    have : ∀ {ts : List TypeId} {vs : List Value} {ds : List (DataW H)} {ps : List MemPlace}, DataW.TrodAll enc P W 0 (fun _ => true) true ts vs ds ps → ds.length = ts.length := by
      intro ts
      induction ts with
      | nil => intro vs ds ps h; cases vs <;> cases ds <;> first | rfl | cases h
      | cons t ts ih =>
        intro vs ds ps h
        cases vs with
        | nil => cases ds <;> cases h
        | cons v vs =>
          cases ds with
          | nil => cases h
          | cons d ds =>
            obtain ⟨_, _, _, h2, _⟩ := h
            simp [ih h2]
    rw [hpl]; exact this hA
  have hfn : spec.fn H (ds ++ []) = { results := [.lit (.bool true)], args := ds } := by rw [List.append_nil]; exact hspec ds hlen
  refine ⟨.bool true, rfl, ds, [], p ++ [], [], p, [], hW', ?_, ?_, ?_, hb.frame _, fun h => by cases h⟩
  · rw [hfn, hres]
    exact ⟨[], [], ⟨1, by simp [DataW.trod, htb, Value.cells]⟩, rfl, rfl⟩
  · rw [hfn]
    refine trodAll_below laid hb (fun t ht => ?_) hA fun x hx => hlt x (by simp [hx])
    have := List.all_eq_true.1 hread t ht
    simpa using this
  · rw [hfn, hvars]
    rfl
end Go.Fw
