/- Swings of many steps, and the swings that FnPendulums begins with. No condition. -/
import Derived.Test.YtalhiopcegnobaaSEq8
set_option linter.unusedVariables false
set_option linter.unusedSimpArgs false
set_option maxRecDepth 20000
namespace Go.Fw
open Ieee

/-! ### Runs -/
def nxt (s : dTurn) : dTurn := (g_i_StepSwing s).getD s
def okB (s : dTurn) : Prop := okF .f32 s.1 ∧ okF .f32 s.2.1

theorem nxt_ok {s : dTurn} (h : s.1 < 2 ^ 32) : g_i_StepSwing s = some (nxt s) ∧ okB (nxt s) ∧ (nxt s).2.2 = s.2.2 := by
  obtain ⟨w, _, h2⟩ := sine32 h
  have := swing_step h2
  unfold nxt
  rw [this]
  exact ⟨rfl, ⟨flush_okF (fadd_okF _ _ _), flush_okF (fmul_okF _ _ _)⟩, rfl⟩

def listS : Nat → dTurn → List Nat
  | 0, s => []
  | n + 1, s => (nxt s).1 :: listS n (nxt s)
def endS : Nat → dTurn → dTurn
  | 0, s => s
  | n + 1, s => endS n (nxt s)
theorem listS_len : ∀ (n : Nat) (s : dTurn), (listS n s).length = n
  | 0, s => rfl
  | n + 1, s => by simp [listS, listS_len n]
theorem listS_add : ∀ (a b : Nat) (s : dTurn), listS (a + b) s = listS a s ++ listS b (endS a s)
  | 0, b, s => by simp [listS, endS]
  | a + 1, b, s => by rw [show a + 1 + b = (a + b) + 1 by omega]; simp only [listS, endS, listS_add a b, List.cons_append]
theorem endS_add : ∀ (a b : Nat) (s : dTurn), endS (a + b) s = endS b (endS a s)
  | 0, b, s => by simp [endS]
  | a + 1, b, s => by rw [show a + 1 + b = (a + b) + 1 by omega]; simp only [endS, endS_add a b]
theorem endS_okB : ∀ (n : Nat) {s : dTurn}, okB s → okB (endS n s)
  | 0, s, h => h
  | n + 1, s, h => endS_okB n (nxt_ok h.1.lt32).2.1
theorem listS_get : ∀ (n j : Nat) (s : dTurn), j < n → (listS n s).getD j 0 = (endS (j + 1) s).1
  | 0, j, s, h => by omega
  | n + 1, 0, s, h => rfl
  | n + 1, j + 1, s, h => by
    have := listS_get n j (nxt s) (by omega)
    simpa [listS, endS] using this
theorem listS_okF : ∀ (n : Nat) {s : dTurn}, okB s → ∀ x ∈ listS n s, okF .f32 x
  | 0, s, h, x, hx => by cases hx
  | n + 1, s, h, x, hx => by
    have hn := (nxt_ok h.1.lt32).2.1
    rcases List.mem_cons.1 hx with rfl | hx
    · exact hn.1
    · exact listS_okF n hn x hx

theorem runS_loop (n : Nat) (b1 : dTurn) (hn : n ≤ 1000) : ∀ (m i N : Nat) (s : dTurn) (r : List Nat), okB s → i + m = n → r.length = i → m < N →
    iter L_i_RunSwing_1 N (((n : Int), ((i : Int), ())), ((s, ()), ((b1, ()), (r, ())))) = some ((), ((endS m s, ()), ((b1, ()), (r ++ listS m s, ()))))
  | 0, i, N, s, r, hb, hm, hr, hN => by
    obtain _ | N := N
    · omega
    rw [iter_succ]
    simp only [L_i_RunSwing_1]
    rw [ilt_f (by omega), cond_f]
    simp only [endS, listS, List.append_nil]
  | m + 1, i, N, s, r, hb, hm, hr, hN => by
    obtain _ | N := N
    · omega
    obtain ⟨h1, h2, _⟩ := nxt_ok hb.1.lt32
    rw [iter_succ]
    simp only [L_i_RunSwing_1]
    rw [ilt_nat (by omega), iadd_nat (by omega), h1, ble_t (by omega)]
    simp only [opt_bind_some, cond_t]
    rw [runS_loop n b1 hn m (i + 1) N _ _ h2 (by omega) (by simp; omega) (by omega)]
    simp only [endS, listS, List.append_assoc, List.singleton_append]

theorem c_i_RunSwing {s : dTurn} (h : okB s) {n : Nat} (hn : n ≤ 1000) : g_i_RunSwing s (n : Int) = some (listS n s, (endS n s, (true, ()))) := by
  unfold g_i_RunSwing
  have hm : t_i_isMoves (n : Int) = true := by
    unfold t_i_isMoves
    rw [ile_t (by omega), ile_t (by omega)]; rfl
  have := runS_loop n (0, (0, (0, (0, ())))) hn n 0 fuel s [] h (by omega) rfl (by unfold fuel; omega)
  rw [show ((0 : Nat) : Int) = 0 from rfl, List.nil_append] at this
  rw [hm, bnot_t, cond_f, this, opt_bind_some]

/-! ### Tables -/
def angW (n : Nat) : Nat := fdiv .f32 (fofInt .f32 ((n : Int) - 8)) 1115684864
def spdW (n : Nat) : Nat := fdiv .f32 (fofInt .f32 ((n : Int) - 4)) 1132462080
def pulW (n : Nat) : Nat := fdiv .f32 (fofInt .f32 (n : Int)) 1115684864
def dmpW (n : Nat) : Nat := fdiv .f32 (fofInt .f32 (8 + (n : Int))) 1098907648

def opB (x y : Nat) : Bool := Nat.blt (x % FloatKind.f32.format.signWeight) FloatKind.f32.format.infRung && (Nat.blt (y % FloatKind.f32.format.signWeight) FloatKind.f32.format.infRung && (Nat.beq (x % FloatKind.f32.format.signWeight) (y % FloatKind.f32.format.signWeight) && (Nat.beq (x % FloatKind.f32.format.signWeight) 0 || (sg .f32 y == !sg .f32 x))))
theorem opB_spec {x y : Nat} (h : opB x y = true) : Op x y := by
  unfold opB at h
  rw [Bool.and_eq_true, Bool.and_eq_true, Bool.and_eq_true, Bool.or_eq_true] at h
  obtain ⟨h1, h2, h3, h4⟩ := h
  refine ⟨(fin_dec _ _).2 h1, (fin_dec _ _).2 h2, Nat.eq_of_beq_eq_true h3, ?_⟩
  rcases h4 with h4 | h4
  · exact .inl (Nat.eq_of_beq_eq_true h4)
  · exact .inr (beq_iff_eq.1 h4)

def sinB (x y : Nat) : Bool := match g_i_SineTurns x, g_i_SineTurns y with
  | some w, some v => opB w v
  | _, _ => false
theorem sinB_spec {x y w v : Nat} (h : sinB x y = true) (h1 : g_i_SineTurns x = some w) (h2 : g_i_SineTurns y = some v) : Op w v := by
  unfold sinB at h
  rw [h1, h2] at h
  exact opB_spec h

def angB (n : Nat) : Bool := opB (angW n) (fneg .f32 (angW n)) && (decide (-(1 / 8) ≤ R1 (angW n)) && (decide (R1 (angW n) ≤ 1 / 8) && sinB (angW n) (fneg .f32 (angW n))))
theorem angB_all : ∀ n, n < 17 → angB n = true := by decide +kernel
def spdB (n : Nat) : Bool := opB (spdW n) (fneg .f32 (spdW n)) && (decide (-(1 / 64) ≤ R1 (spdW n)) && decide (R1 (spdW n) ≤ 1 / 64))
theorem spdB_all : ∀ n, n < 9 → spdB n = true := by decide +kernel
def oneB (x : Nat) (N : Rat) : Bool := Nat.blt (x % FloatKind.f32.format.signWeight) FloatKind.f32.format.infRung && (decide (0 ≤ R1 x) && decide (R1 x ≤ N))
theorem pulB_all : ∀ n, n < 9 → oneB (pulW n) (1 / 8) = true := by decide +kernel
theorem dmpB_all : ∀ n, n < 9 → oneB (dmpW n) 1 = true := by decide +kernel

theorem oneB_spec {x : Nat} {N : Rat} (h : oneB x N = true) : fin .f32 x ∧ 0 ≤ R1 x ∧ R1 x ≤ N := by
  unfold oneB at h
  rw [Bool.and_eq_true, Bool.and_eq_true, decide_eq_true_eq, decide_eq_true_eq] at h
  exact ⟨(fin_dec _ _).2 h.1, h.2.1, h.2.2⟩
theorem angB_spec {n : Nat} (h : n < 17) : Op (angW n) (fneg .f32 (angW n)) ∧ In (R1 (angW n)) (1 / 8) ∧ sinB (angW n) (fneg .f32 (angW n)) = true := by
  have h := angB_all n h
  unfold angB at h
  rw [Bool.and_eq_true, Bool.and_eq_true, Bool.and_eq_true, decide_eq_true_eq, decide_eq_true_eq] at h
  exact ⟨opB_spec h.1, ⟨h.2.1, h.2.2.1⟩, h.2.2.2⟩
theorem spdB_spec {n : Nat} (h : n < 9) : Op (spdW n) (fneg .f32 (spdW n)) ∧ In (R1 (spdW n)) (1 / 64) := by
  have h := spdB_all n h
  unfold spdB at h
  rw [Bool.and_eq_true, Bool.and_eq_true, decide_eq_true_eq, decide_eq_true_eq] at h
  exact ⟨opB_spec h.1, ⟨h.2.1, h.2.2⟩⟩
end Go.Fw
