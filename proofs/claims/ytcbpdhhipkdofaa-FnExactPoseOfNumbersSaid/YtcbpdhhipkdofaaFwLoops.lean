/- Functions with loops. No condition. -/
import Derived.Test.YtcbpdhhipkdofaaFwTab
namespace Go.Fw

def loopsOf : Code → List Code
  | .seq a b => loopsOf a ++ loopsOf b
  | .cond _ a b => loopsOf a ++ loopsOf b
  | .block _ c => loopsOf c
  | .loop c => c :: loopsOf c
  | _ => []

theorem loopsOf_spec {E : Tabs} {L : Nat → Option LP} {n : Nat} : ∀ c : Code, (∀ b, b ∈ loopsOf c → ∀ r lm, firstReg b = some r → L r = some (.lm lm) → LoopOK E L n b lm) → LoopsOK E L n c := by
  intro c
  induction c with
  | seq a b iha ihb => intro h; exact ⟨iha fun x hx => h x (List.mem_append.2 (.inl hx)), ihb fun x hx => h x (List.mem_append.2 (.inr hx))⟩
  | cond o a b iha ihb => intro h; exact ⟨iha fun x hx => h x (List.mem_append.2 (.inl hx)), ihb fun x hx => h x (List.mem_append.2 (.inr hx))⟩
  | block i c ih => intro h; exact ih h
  | loop c ih => intro h; exact ⟨h c (.head _), ih fun x hx => h x (.tail _ hx)⟩
  | _ => intro _; trivial

def fnLoops (fn : Func) : List Code := match fn.body with
  | some c => loopsOf c
  | none => []

/-- The i-th loop's body. -/
def loopAt (fn : Func) (i : Nat) : Code := (fnLoops fn).getD i .skip

def hasBody (fn : Func) : Bool := match fn.body with
  | some _ => true
  | none => false

theorem Loops.all {E : Tabs} {L : Nat → Option LP} {fn : Func} (hb : hasBody fn = true) (h : ∀ i, i < (fnLoops fn).length → ∀ r lm, firstReg (loopAt fn i) = some r → L r = some (.lm lm) → LoopOK E L fn.ntmps (loopAt fn i) lm) : Loops E L fn := by
  unfold hasBody at hb
  split at hb
  · rename_i c hc
    refine ⟨c, hc, loopsOf_spec c fun b hbm r lm hr hl => ?_⟩
    obtain ⟨i, hi⟩ := List.getElem?_of_mem hbm
    have hlt := (List.getElem?_eq_some_iff.1 hi).1
    have hf : fnLoops fn = loopsOf c := by unfold fnLoops; rw [hc]
    have he : loopAt fn i = b := by unfold loopAt; rw [hf, List.getD_eq_getElem?_getD, hi]; rfl
    have := h i (by rw [hf]; exact hlt) r lm (by rw [he]; exact hr) hl
    rwa [he] at this
  · cases hb

def oneL (r : Nat) (lm : LM) : Nat → Option LP := fun q => bif Nat.beq q r then some (.lm lm) else none

theorem Loops.one {E : Tabs} {fn : Func} {r : Nat} {lm : LM} (hb : hasBody fn = true) (hlen : (fnLoops fn).length = 1) (h : LoopOK E (oneL r lm) fn.ntmps (loopAt fn 0) lm) : Loops E (oneL r lm) fn := by
  refine Loops.all hb fun i hi q lm' _ hl => ?_
  have hi0 : i = 0 := by omega
  subst hi0
  unfold oneL at hl
  cases hq : Nat.beq q r
  · rw [hq] at hl; cases hl
  · rw [hq] at hl
    simp only [cond_true, Option.some.injEq, LP.lm.injEq] at hl
    subst hl
    exact h

/-- Rounds, at most so many. -/
def iter {D O : Type} (step : (D → Option O) → D → Option O) : Nat → D → Option O
  | 0 => fun _ => none
  | k + 1 => step (iter step k)

theorem LoopOK.iter {E : Tabs} {L : Nat → Option LP} {n : Nat} {body : Code} {lm : LM} {step : (lm.head.D → Option (LRes lm.rets lm.out.D)) → lm.head.D → Option (LRes lm.rets lm.out.D)} {N : lm.head.D → Nat} (hround : ∀ rec' x, round E L lm n body rec' x = step rec' x) (hrun : ∀ x, lm.run x = Fw.iter step (N x) x) : LoopOK E L n body lm := by
  have key : ∀ k, roundN E L lm n body k = Fw.iter step k := by
    intro k
    induction k with
    | zero => rfl
    | succ k ih =>
      funext x
      show round E L lm n body (roundN E L lm n body k) x = step (Fw.iter step k) x
      rw [hround, ih]
  intro x y h
  rw [hrun] at h
  exact ⟨N x, by rw [key]; exact h⟩

end Go.Fw
