/- Springs: one step of a point. No condition. -/
import Derived.Test.YtalhiopcegnobaaSprF
namespace Go.Fw.Spr
open Go.Fw Go.Proofs

abbrev vec : Ty := .pair F32 (.pair F32 (.pair F32 .unit))
abbrev pnt : Ty := .pair vec (.pair vec (.pair F32 (.pair F32 .unit)))
theorem e27 (a : vec.D) : evalF (env envF) noL Try.f27 [.ro true vec] (.one true vec) (a, ()) = some (a.1, a.2.1, a.2.2.1, ()) := by kernel_rfl
def mToV : FM := { ps := [.ro true vec], res := .one true vec, run := fun x => some x.1 }
theorem ok27 : FmOK Try.prog 27 mToV := FmOK.made allF.env Try.func27 (by kernel_rfl) (.none (by kernel_rfl)) fun ds out _ hr => by
  obtain ⟨⟨a, b, c, ⟨⟩⟩, ⟨⟩⟩ := ds
  exact (e27 (a, b, c, ())).trans hr
theorem e54 (a : vec.D) : evalF (env envF) noL Try.f54 [.ro true vec, .ro true vec] (.one false .bool) (a, a, ()) = eqF a.1 (eqF a.2.1 (eqF a.2.2.1 (some true))) := by kernel_rfl
def vecEq (a b : vec.D) : Bool := Nat.beq a.1 b.1 && Nat.beq a.2.1 b.2.1 && Nat.beq a.2.2.1 b.2.2.1
theorem vecEq_self (a : vec.D) : vecEq a a = true := by simp [vecEq]
theorem vecEq_eq {a b : vec.D} (h : vecEq a b = true) : a = b := by
  obtain ⟨a1, a2, a3, ⟨⟩⟩ := a
  obtain ⟨b1, b2, b3, ⟨⟩⟩ := b
  simp only [vecEq, Bool.and_eq_true] at h
  obtain ⟨⟨h1, h2⟩, h3⟩ := h
  rw [Nat.eq_of_beq_eq_true h1, Nat.eq_of_beq_eq_true h2, Nat.eq_of_beq_eq_true h3]
def m54 : FM := { ps := [.ro true vec, .ro true vec], res := .one false .bool, run := fun x => bif vecEq x.1 x.2.1 then some true else none }
theorem ok54 : FmOK Try.prog 54 m54 := FmOK.made allF.env Try.func54 (by kernel_rfl) (.none (by kernel_rfl)) fun ds out ho hr => by
  obtain ⟨a, b, ⟨⟩⟩ := ds
  obtain ⟨h1, h2⟩ := bif_some hr
  have e : a = b := vecEq_eq h1
  subst e
  obtain ⟨⟨o1, o2, o3, _⟩, _⟩ := ho
  refine (e54 a).trans ?_
  rw [eqF_eq o1, eqF_eq o2, eqF_eq o3]
  exact h2
def envG : List (Nat × FM) := (27, mToV) :: (54, m54) :: envF
theorem allG : AllOK envG := .cons ok27 (.cons ok54 allF)
theorem e26 (p : pnt.D) : evalF (env envG) noL Try.f26 [.ro true pnt] (.one true pnt) (p, ()) = some ((p.1.1, p.1.2.1, p.1.2.2.1, ()), (p.2.1.1, p.2.1.2.1, p.2.1.2.2.1, ()), p.2.2.1, p.2.2.2.1, ()) := by kernel_rfl
def mToP : FM := { ps := [.ro true pnt], res := .one true pnt, run := fun x => some x.1 }
theorem ok26 : FmOK Try.prog 26 mToP := FmOK.made allG.env Try.func26 (by kernel_rfl) (.none (by kernel_rfl)) fun ds out _ hr => by
  obtain ⟨⟨⟨a, b, c, ⟨⟩⟩, ⟨d, e, f, ⟨⟩⟩, g, h, ⟨⟩⟩, ⟨⟩⟩ := ds
  exact (e26 ((a, b, c, ()), (d, e, f, ()), g, h, ())).trans hr
def stepP (p : pnt.D) (g : vec.D) : pnt.D :=
  ((plc p.1.1 (spd p.1.1 p.2.1.1 p.2.2.1 p.2.2.2.1 g.1), plc p.1.2.1 (spd p.1.2.1 p.2.1.2.1 p.2.2.1 p.2.2.2.1 g.2.1), plc p.1.2.2.1 (spd p.1.2.2.1 p.2.1.2.2.1 p.2.2.1 p.2.2.2.1 g.2.2.1), ()),
   (spd p.1.1 p.2.1.1 p.2.2.1 p.2.2.2.1 g.1, spd p.1.2.1 p.2.1.2.1 p.2.2.1 p.2.2.2.1 g.2.1, spd p.1.2.2.1 p.2.1.2.2.1 p.2.2.1 p.2.2.2.1 g.2.2.1, ()), p.2.2.1, p.2.2.2.1, ())
theorem e25 (p : pnt.D) (g : vec.D) : evalF (env envG) noL Try.f25 [.ro true pnt, .ro true vec] (.one true pnt) (p, g, ()) = some (stepP p g) := by kernel_rfl
theorem e28 (p : pnt.D) (g : vec.D) : evalF (env envG) noL Try.f28 [.ro true pnt, .ro true vec] (.one true pnt) (p, g, ()) = some (stepP p g) := by kernel_rfl
def mStepP : FM := { ps := [.ro true pnt, .ro true vec], res := .one true pnt, run := fun x => some (stepP x.1 x.2.1) }
theorem ok25 : FmOK Try.prog 25 mStepP := FmOK.made allG.env Try.func25 (by kernel_rfl) (.none (by kernel_rfl)) fun ds out _ hr => by
  obtain ⟨p, g, ⟨⟩⟩ := ds
  exact (e25 p g).trans hr
theorem ok28 : FmOK Try.prog 28 mStepP := FmOK.made allG.env Try.func28 (by kernel_rfl) (.none (by kernel_rfl)) fun ds out _ hr => by
  obtain ⟨p, g, ⟨⟩⟩ := ds
  exact (e28 p g).trans hr
def pntEq (a b : pnt.D) : Bool := vecEq a.1 b.1 && vecEq a.2.1 b.2.1 && Nat.beq a.2.2.1 b.2.2.1 && Nat.beq a.2.2.2.1 b.2.2.2.1
theorem pntEq_self (a : pnt.D) : pntEq a a = true := by simp [pntEq, vecEq_self]
theorem pntEq_eq {a b : pnt.D} (h : pntEq a b = true) : a = b := by
  obtain ⟨a1, a2, a3, a4, ⟨⟩⟩ := a
  obtain ⟨b1, b2, b3, b4, ⟨⟩⟩ := b
  simp only [pntEq, Bool.and_eq_true] at h
  obtain ⟨⟨⟨h1, h2⟩, h3⟩, h4⟩ := h
  rw [vecEq_eq h1, vecEq_eq h2, Nat.eq_of_beq_eq_true h3, Nat.eq_of_beq_eq_true h4]
def eqV (x : vec.D) (k : Option Bool) : Option Bool := (bif vecEq x x then some true else none).bind fun t => bif !t then some false else k
theorem eqV_eq (x : vec.D) (k : Option Bool) : eqV x k = k := by unfold eqV; rw [vecEq_self]; rfl
theorem e29 (a : pnt.D) : evalF (env envG) noL Try.f29 [.ro true pnt, .ro true pnt] (.one false .bool) (a, a, ()) = eqV a.1 (eqV a.2.1 (eqF a.2.2.1 (eqF a.2.2.2.1 (some true)))) := by kernel_rfl
def m29 : FM := { ps := [.ro true pnt, .ro true pnt], res := .one false .bool, run := fun x => bif pntEq x.1 x.2.1 then some true else none }
theorem ok29 : FmOK Try.prog 29 m29 := FmOK.made allG.env Try.func29 (by kernel_rfl) (.none (by kernel_rfl)) fun ds out ho hr => by
  obtain ⟨a, b, ⟨⟩⟩ := ds
  obtain ⟨h1, h2⟩ := bif_some hr
  have e : a = b := pntEq_eq h1
  subst e
  obtain ⟨⟨_, _, o3, o4, _⟩, _⟩ := ho
  refine (e29 a).trans ?_
  rw [eqV_eq, eqV_eq, eqF_eq o3, eqF_eq o4]
  exact h2
def envH : List (Nat × FM) := (26, mToP) :: (25, mStepP) :: (28, mStepP) :: (29, m29) :: envG
theorem allH : AllOK envH := .cons ok26 (.cons ok25 (.cons ok28 (.cons ok29 allG)))
theorem e7 (p : pnt.D) (g : vec.D) : evalF (env envH) noL Try.f7 [.ro true pnt, .ro true vec] (.one false .bool) (p, g, ()) =
    (bif pntEq (stepP p g) (stepP p g) then some true else none).bind fun t => bif !t then some false else some true := by kernel_rfl
theorem eval7 (p : pnt.D) (g : vec.D) : evalF (env envH) noL Try.f7 [.ro true pnt, .ro true vec] (.one false .bool) (p, g, ()) = some true := by
  rw [e7, pntEq_self]; rfl
end Go.Fw.Spr
