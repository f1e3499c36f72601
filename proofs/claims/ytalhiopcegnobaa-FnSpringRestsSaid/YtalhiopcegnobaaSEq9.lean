/- Swings of many steps, and the swings that FnPendulums begins with. No condition. -/
import Derived.Test.YtalhiopcegnobaaSEq8
set_option linter.unusedVariables false
set_option linter.unusedSimpArgs false
set_option maxRecDepth 20000
namespace Go.Fw
open Ieee

/-! ### Runs -/
def nxt (s : dTurn) : dTurn := (g_i_StepSwing s).getD s
def okB (s : dTurn) : Prop := okF .f32 s.1 ∧ okF .f32 s.2.1

theorem nxt_ok {s : dTurn} (h : s.1 < 2 ^ 32) : g_i_StepSwing s = some (nxt s) ∧ okB (nxt s) ∧ (nxt s).2.2 = s.2.2 := by
  obtain ⟨w, _, h2⟩ := sine32 h
  have := swing_step h2
  unfold nxt
  rw [this]
  exact ⟨rfl, ⟨flush_okF (fadd_okF _ _ _), flush_okF (fmul_okF _ _ _)⟩, rfl⟩

def endS : Nat → dTurn → dTurn
  | 0, s => s
  | n + 1, s => endS n (nxt s)
/-! ### Tables -/
def opB (x y : Nat) : Bool := Nat.blt (x % FloatKind.f32.format.signWeight) FloatKind.f32.format.infRung && (Nat.blt (y % FloatKind.f32.format.signWeight) FloatKind.f32.format.infRung && (Nat.beq (x % FloatKind.f32.format.signWeight) (y % FloatKind.f32.format.signWeight) && (Nat.beq (x % FloatKind.f32.format.signWeight) 0 || (sg .f32 y == !sg .f32 x))))
theorem opB_spec {x y : Nat} (h : opB x y = true) : Op x y := by
  unfold opB at h
  rw [Bool.and_eq_true, Bool.and_eq_true, Bool.and_eq_true, Bool.or_eq_true] at h
  obtain ⟨h1, h2, h3, h4⟩ := h
  refine ⟨(fin_dec _ _).2 h1, (fin_dec _ _).2 h2, Nat.eq_of_beq_eq_true h3, ?_⟩
  rcases h4 with h4 | h4
  · exact .inl (Nat.eq_of_beq_eq_true h4)
  · exact .inr (beq_iff_eq.1 h4)

def sinB (x y : Nat) : Bool := match g_i_SineTurns x, g_i_SineTurns y with
  | some w, some v => opB w v
  | _, _ => false
theorem sinB_spec {x y w v : Nat} (h : sinB x y = true) (h1 : g_i_SineTurns x = some w) (h2 : g_i_SineTurns y = some v) : Op w v := by
  unfold sinB at h
  rw [h1, h2] at h
  exact opB_spec h

end Go.Fw
