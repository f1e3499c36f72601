/- Tables of models; functions with loops; the plain words that printed texts use. No condition. -/
import Derived.Test.YtcbpdhhipkdofaaFwLoops
namespace Go.Fw

def ent {α : Type} : List (Nat × α) → FuncId → List α
  | [], _ => []
  | (k, m) :: r, f => bif Nat.beq k f then m :: ent r f else ent r f

theorem ent_mem {α : Type} : ∀ {l : List (Nat × α)} {f : FuncId} {m : α}, m ∈ ent l f → (f, m) ∈ l
  | [], _, _, h => by cases h
  | (k, m') :: r, f, m, h => by
    simp only [ent] at h
    cases hb : Nat.beq k f
    · rw [hb] at h; exact .tail _ (ent_mem h)
    · rw [hb] at h
      have := Nat.eq_of_beq_eq_true hb
      subst this
      cases h with
      | head => exact .head _
      | tail _ h => exact .tail _ (ent_mem h)

def mkE (T : List (Nat × TI)) (l : List (Nat × FM)) (x : List (Nat × FX)) : Tabs := { T := lookT T, pur := ent l, mutf := ent x }

def AllF (P : Program) (l : List (Nat × FM)) : Prop := ∀ f m, (f, m) ∈ l → FmOK P f m
def AllX (P : Program) (l : List (Nat × FX)) : Prop := ∀ f m, (f, m) ∈ l → FxOK P f m
theorem AllF.nil {P : Program} : AllF P [] := fun _ _ h => by cases h
theorem AllF.cons {P : Program} {f : Nat} {m : FM} {l : List (Nat × FM)} (h : FmOK P f m) (hl : AllF P l) : AllF P ((f, m) :: l) := fun g m' hm => by
  cases hm with
  | head => exact h
  | tail _ hm => exact hl g m' hm
theorem AllX.nil {P : Program} : AllX P [] := fun _ _ h => by cases h
theorem AllX.cons {P : Program} {f : Nat} {m : FX} {l : List (Nat × FX)} (h : FxOK P f m) (hl : AllX P l) : AllX P ((f, m) :: l) := fun g m' hm => by
  cases hm with
  | head => exact h
  | tail _ hm => exact hl g m' hm

theorem mkE_ok {P : Program} {T : List (Nat × TI)} {l : List (Nat × FM)} {x : List (Nat × FX)} (ht : TabOK P (lookT T)) (hm : P.follows .mixedOrders = true) (hl : AllF P l) (hx : AllX P x) : EnvOK P (mkE T l x) :=
  ⟨ht, fun f m h => hl f m (ent_mem h), fun f m h => hx f m (ent_mem h), hm⟩

def noL : Nat → Option LP := fun _ => none

/-! ### loops, by a list -/
def lookL : List (Nat × LP) → Nat → Option LP
  | [], _ => none
  | (r, p) :: l, q => bif Nat.beq r q then some p else lookL l q

def LoopsI (E : Tabs) (L : Nat → Option LP) (fn : Func) : Nat → List (Nat × LP) → Prop
  | _, [] => True
  | i, (_, .lm lm) :: l => LoopOK E L fn.ntmps (loopAt fn i) lm ∧ LoopsI E L fn (i + 1) l
  | i, (_, .unroll _) :: l => LoopsI E L fn (i + 1) l

/-- The list has the loops' first regions, each once. -/
def regsB (fn : Func) (l : List (Nat × LP)) : Bool := decide ((fnLoops fn).map firstReg = l.map fun p => some p.1) && nodupB (l.map (·.1))

theorem lookL_spec : ∀ {l : List (Nat × LP)} {r : Nat} {p : LP} {i : Nat}, nodupB (l.map (·.1)) = true → (∃ q, l[i]? = some (r, q)) → lookL l r = some p → l[i]? = some (r, p)
  | [], r, p, i, _, ⟨q, h⟩, _ => by simp at h
  | (r0, p0) :: l, r, p, i, hn, ⟨q, h⟩, hl => by
    simp only [List.map_cons, nodupB, Bool.and_eq_true, Bool.not_eq_true'] at hn
    simp only [lookL] at hl
    cases i with
    | zero =>
      simp at h
      obtain ⟨rfl, rfl⟩ := h
      rw [Nat.beq_refl] at hl
      cases hl; rfl
    | succ i =>
      simp only [List.getElem?_cons_succ] at h ⊢
      cases hb : Nat.beq r0 r
      · rw [hb] at hl
        exact lookL_spec hn.2 ⟨q, h⟩ hl
      · exfalso
        have e := Nat.eq_of_beq_eq_true hb
        subst e
        have h1 := (memB_false _ _).1 hn.1
        exact h1 (List.mem_map.2 ⟨_, List.mem_of_getElem? h, rfl⟩)

theorem LoopsI_get {E : Tabs} {L : Nat → Option LP} {fn : Func} : ∀ {l : List (Nat × LP)} {k i : Nat} {r : Nat} {lm : LM}, LoopsI E L fn k l → l[i]? = some (r, .lm lm) → LoopOK E L fn.ntmps (loopAt fn (k + i)) lm
  | [], k, i, r, lm, _, h => by simp at h
  | (r0, .lm lm0) :: l, k, i, r, lm, hl, h => by
    cases i with
    | zero => simp at h; obtain ⟨_, rfl⟩ := h; exact hl.1
    | succ i =>
      simp only [List.getElem?_cons_succ] at h
      have := LoopsI_get hl.2 h
      rwa [show k + (i + 1) = k + 1 + i by omega]
  | (r0, .unroll n) :: l, k, i, r, lm, hl, h => by
    cases i with
    | zero => simp at h
    | succ i =>
      simp only [List.getElem?_cons_succ] at h
      have := LoopsI_get (k := k + 1) hl h
      rwa [show k + (i + 1) = k + 1 + i by omega]

theorem Loops.list {E : Tabs} {fn : Func} {l : List (Nat × LP)} (hb : hasBody fn = true) (hr : regsB fn l = true) (h : LoopsI E (lookL l) fn 0 l) : Loops E (lookL l) fn := by
  simp only [regsB, Bool.and_eq_true, decide_eq_true_eq] at hr
  obtain ⟨h1, h2⟩ := hr
  refine Loops.all hb fun i hi r lm hf hl => ?_
  have e : (fnLoops fn)[i]? = some (loopAt fn i) := by
    unfold loopAt
    rw [List.getD_eq_getElem?_getD, List.getElem?_eq_getElem hi]; rfl
  have e2 : ((fnLoops fn).map firstReg)[i]? = some (some r) := by rw [List.getElem?_map, e, Option.map_some, hf]
  rw [h1, List.getElem?_map] at e2
  cases hx : l[i]? with
  | none => rw [hx] at e2; cases e2
  | some p =>
    rw [hx] at e2
    obtain ⟨r', q⟩ := p
    simp at e2
    subst e2
    have := lookL_spec h2 ⟨q, hx⟩ hl
    have := LoopsI_get h this
    rwa [Nat.zero_add] at this

/-! ### the plain words -/
def fuel : Nat := 18446744073709551616

theorem bif_some_some {α : Type} (c : Bool) (x y : α) : (bif c then some x else some y) = some (bif c then x else y) := by cases c <;> rfl

end Go.Fw
