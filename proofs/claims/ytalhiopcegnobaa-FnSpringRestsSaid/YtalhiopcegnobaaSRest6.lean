/- Springs come to rest: words. No condition. -/
import Derived.Test.YtalhiopcegnobaaSRest5
import Derived.Test.YtalhiopcegnobaaSRest4
set_option linter.unusedVariables false
set_option linter.unusedSimpArgs false
namespace Go.Fw
open Ieee

/-- A spring with numbers that are known. -/
def Spr (s : dTurn) (d k : Rat) : Prop := okT s ∧ fin .f32 s.2.2.1 ∧ fin .f32 s.2.2.2.1 ∧ R1 s.2.2.1 = k ∧ R1 s.2.2.2.1 = d ∧ sub32 s.1 = false

theorem flush_sub32 {x : Nat} : sub32 (flush x) = false := by
  unfold flush
  cases hs : sub32 x
  · rw [cond_f]; exact hs
  · rw [cond_t]
    unfold sub32
    rw [Bool.and_eq_false_iff]
    left
    rw [decide_eq_false_iff_not]
    omega

theorem Spr.step {s : dTurn} {d k : Rat} (h : Spr s d k) : Spr (stepOf s 0) d k := ⟨stepOf_okT 0 h.1, h.2.1, h.2.2.1, h.2.2.2.1, h.2.2.2.2.1, flush_sub32⟩

theorem near_In {x : Nat} {T : Rat} (h : nearR (R1 x * U) 0 T) : In (R1 x) (T * (1 / 85070591730234615865843651857942052864)) := by
  unfold nearR U at h
  exact ⟨by grind, by grind⟩

theorem step_both {s : dTurn} {d k : Rat} (h : Spr s d k) (k0 : 0 ≤ k) (k1 : k ≤ 1) (d0 : 0 ≤ d) (d1 : d ≤ 1) {T : Rat} (hX : nearR (R1 s.1 * U) 0 T) (hV : nearR (R1 s.2.1 * U) 0 T) (hT : T ≤ 2 ^ 140) :
    ∃ y w, nearR y (d * (R1 s.2.1 * U - k * (R1 s.1 * U))) (T * (5001 / 16777216000) + 21 / 83886080) ∧ Fl y (R1 (stepOf s 0).2.1 * U) ∧
      nearR w (R1 s.1 * U + R1 (stepOf s 0).2.1 * U) (T * (301 / 1677721600) + 3 / 1000000000) ∧ Fl w (R1 (stepOf s 0).1 * U) ∧ (R1 (stepOf s 0).2.1 * U = 0 → R1 (stepOf s 0).1 * U = R1 s.1 * U) := by
  obtain ⟨ok, fs, fd, rs, rd, hp⟩ := h
  have T0 : 0 ≤ T := by unfold nearR at hX; grind
  have hT' : T * (1 / 85070591730234615865843651857942052864) ≤ 1048576 := by
    have e : (2 : Rat) ^ 140 = 1393796574908163946345982392040522594123776 := by decide +kernel
    rw [e] at hT; grind
  have ip := near_In hX
  have iv := near_In hV
  have fp := fin_small (ip.mono hT')
  have fv := fin_small (iv.mono hT')
  obtain ⟨y1, y2⟩ := spring_R ok.1 fp fv fs fd (by rw [rs]; exact k0) (by rw [rs]; exact k1) (by rw [rd]; exact d0) (by rw [rd]; exact d1) ip iv hT'
  rw [rs, rd] at y1 y2
  have e1 : (stepOf s 0).2.1 = flush (fmul .f32 (fadd .f32 s.2.1 (fmul .f32 s.2.2.1 (fsub .f32 0 s.1))) s.2.2.2.1) := rfl
  have e2 : (stepOf s 0).1 = flush (fadd .f32 s.1 (stepOf s 0).2.1) := rfl
  rw [e1] at e2 ⊢
  rw [e2]
  have oy := fmul_okF .f32 (fadd .f32 s.2.1 (fmul .f32 s.2.2.1 (fsub .f32 0 s.1))) s.2.2.2.1
  generalize fmul .f32 (fadd .f32 s.2.1 (fmul .f32 s.2.2.1 (fsub .f32 0 s.1))) s.2.2.2.1 = y at *
  obtain ⟨f1, f2, _⟩ := flush_R oy y1.1
  have hF := (flush_F oy).1
  have yin := y1.inn y2
  have vin : In (R1 (flush y)) (T * (1 / 85070591730234615865843651857942052864) * (201 / 100) + 3 * e32) := by
    have a1 := yin.1
    have a2 := yin.2
    unfold R1 at *
    unfold Fl at hF
    rcases hF with ⟨h1, _, _⟩ | ⟨h1, _⟩
    · unfold U e32 at *; exact ⟨by grind, by grind⟩
    · unfold U e32 u32 at *; exact ⟨by grind, by grind⟩
  have sin := ip.add vin
  have w := (Ap.self fp).add (Ap.self f1) sin (by unfold big32 e32; grind)
  have ow := fadd_okF .f32 s.1 (flush y)
  have hG := (flush_F ow).1
  refine ⟨R1 y * U, R1 (fadd .f32 s.1 (flush y)) * U, ?_, hF, ?_, hG, ?_⟩
  · have a1 := y1.2.1
    have a2 := y1.2.2
    unfold nearR
    unfold R1 U e32 u32 at *
    exact ⟨by grind, by grind⟩
  · have a1 := w.2.1
    have a2 := w.2.2
    unfold nearR
    unfold R1 U e32 u32 at *
    exact ⟨by grind, by grind⟩
  · intro h0
    have h1 : R1 (flush y) = 0 := by unfold U at h0; grind
    obtain ⟨_, g2⟩ := add_E fp f1 fp (by unfold R1 at h1; rw [h1]; grind)
    have g3 : R1 (fadd .f32 s.1 (flush y)) = R1 s.1 := by unfold R1 at *; rw [g2, h1]; grind
    rw [g3] at hG
    have hH := (flush_F ok.1)
    rw [hH.2 hp] at hH
    have hH := hH.1
    unfold Fl at hG hH
    rcases hG with ⟨q1, q2, q3⟩ | ⟨q1, _⟩
    · rcases hH with ⟨q4, _⟩ | ⟨_, q4 | q4⟩
      · rw [q1, q4]
      · grind
      · grind
    · exact q1

/-- The steps. -/
def zs (s : dTurn) : Nat → dTurn
  | 0 => s
  | n + 1 => stepOf (zs s n) 0
theorem zs_spr {s : dTurn} {d k : Rat} (h : Spr s d k) : ∀ n, Spr (zs s n) d k
  | 0 => h
  | n + 1 => (zs_spr h n).step

theorem far_path {s : dTurn} {d k : Rat} (h : Spr s d k) (k0 : 0 ≤ k) (k1 : k ≤ 1) (d0 : 0 ≤ d) (d1 : d ≤ 1) :
    Far d k (fun n => R1 (zs s n).1 * U) (fun n => R1 (zs s n).2.1 * U) ∧ Path d k (1 / 100000) (fun n => R1 (zs s n).1 * U) (fun n => R1 (zs s n).2.1 * U) := by
  constructor
  · intro n S hX hV hS
    obtain ⟨y, w, a1, a2, a3, a4, _⟩ := step_both (zs_spr h n) k0 k1 d0 d1 hX hV hS
    have S0 : 0 ≤ S := by unfold nearR at hX; grind
    dsimp only
    show nearR (R1 (stepOf (zs s n) 0).2.1 * U) _ _ ∧ nearR (R1 (stepOf (zs s n) 0).1 * U) (R1 (zs s n).1 * U + R1 (stepOf (zs s n) 0).2.1 * U) _
    generalize R1 (stepOf (zs s n) 0).2.1 * U = v' at *
    generalize R1 (stepOf (zs s n) 0).1 * U = x' at *
    unfold nearR Fl at *
    exact ⟨by rcases a2 with ⟨rfl, _, _⟩ | ⟨rfl, _⟩ <;> exact ⟨by grind, by grind⟩, by rcases a4 with ⟨rfl, _, _⟩ | ⟨rfl, _⟩ <;> exact ⟨by grind, by grind⟩⟩
  · intro n hX hV
    obtain ⟨y, w, a1, a2, a3, a4, a5⟩ := step_both (zs_spr h n) k0 k1 d0 d1 hX hV (by decide +kernel)
    exact ⟨y, w, a1.mono (by decide +kernel), a2, a3.mono (by decide +kernel), a4, a5⟩

/-- The pairs of numbers. -/
def qw (i : Nat) : Nat := fdiv .f32 (fofInt .f32 (1 + (i : Int))) 1082130432
def qr (i : Nat) : Rat := (1 + (i : Rat)) / 4
theorem qw_tab : ∀ i, i < 3 → Nat.blt (qw i % FloatKind.f32.format.signWeight) FloatKind.f32.format.infRung = true ∧ R1 (qw i) = qr i := by decide +kernel

theorem comes_near {i j : Nat} (hi : i < 3) (hj : j < 3) {X V : Nat → Rat} (hF : Far (qr j) (qr i) X V) (hP : Path (qr j) (qr i) (1 / 100000) X V) (hX : nearR (X 0) 0 (2 ^ 128)) (hV : nearR (V 0) 0 (2 ^ 128)) :
    ∃ m, m < 1576 ∧ V m = 0 ∧ V (m + 1) = 0 ∧ nearR (X m) 0 32 := by
  have q0 : qr 0 = 1 / 4 := by decide +kernel
  have q1 : qr 1 = 1 / 2 := by decide +kernel
  have q2 : qr 2 = 3 / 4 := by decide +kernel
  have hi' : i = 0 ∨ i = 1 ∨ i = 2 := by omega
  have hj' : j = 0 ∨ j = 1 ∨ j = 2 := by omega
  rcases hj' with rfl | rfl | rfl <;> rcases hi' with rfl | rfl | rfl <;> simp only [q0, q1, q2] at hF hP
  · exact near_rest (by decide +kernel) (by decide +kernel) hF hP pr_11 cv_11 hX hV
  · exact near_rest (by decide +kernel) (by decide +kernel) hF hP pr_12 cv_12 hX hV
  · exact near_rest (by decide +kernel) (by decide +kernel) hF hP pr_13 cv_13 hX hV
  · exact near_rest (by decide +kernel) (by decide +kernel) hF hP pr_21 cv_21 hX hV
  · exact near_rest (by decide +kernel) (by decide +kernel) hF hP pr_22 cv_22 hX hV
  · exact near_rest (by decide +kernel) (by decide +kernel) hF hP pr_23 cv_23 hX hV
  · exact near_rest (by decide +kernel) (by decide +kernel) hF hP pr_31 cv_31 hX hV
  · exact near_rest (by decide +kernel) (by decide +kernel) hF hP pr_32 cv_32 hX hV
  · exact near_rest (by decide +kernel) (by decide +kernel) hF hP pr_33 cv_33 hX hV
end Go.Fw
