/- The reference's functions and the program's compute the same: mixed skins. No condition. -/
import Derived.Test.YtobcfldhacdpiaaGreatBEq6
set_option linter.unusedVariables false
set_option linter.unusedSimpArgs false
namespace Go.Fw

/-! mixed turns -/
theorem se_InnerOfTurns (a b : dTurn) : t_i_InnerOfTurns a b = t_s_l02Inner a b := rfl
theorem se_LengthOfTurn (t : dTurn) : g_i_LengthOfTurn t = g_s_l01Sqrt (t_s_l02Inner t t) := by
  unfold g_i_LengthOfTurn
  rw [se_RootNumber, se_InnerOfTurns, opt_bind_pure]
theorem se_MendTurn (t : dTurn) : g_i_MendTurn t = g_s_l02Mend t := by
  unfold g_i_MendTurn g_s_l02Mend
  rw [se_LengthOfTurn]
  congr 1
  funext y
  unfold t_i_isLength
  rw [se_IsFinite]
  cases t_s_l01Finite y <;> cases feq .f32 y 0 <;> rfl
theorem rt_l02Mend (t : dTurn) : Ret (g_s_l02Mend t) fun _ => True := by
  unfold g_s_l02Mend
  refine Ret.bind' (rt_l01Sqrt (fadd_okF _ _ _)) fun y _ _ => ?_
  cases feq .f32 y 0
  · cases t_s_l01Finite y <;> exact Ret.pure trivial
  · exact Ret.pure trivial

theorem se_mix_loop (l : List dTurn) (ws : List Nat) (b0 : dTurn) : ∀ (n : Nat) (i : Int) (s : dTurn),
    iter L_i_mixTurns_1 n ((l, (ws, (l, ((l.length : Int), (i, ()))))), ((b0, ()), ((s, ()), ()))) = iter L_s_l02Mix_1 n ((l, (ws, (i, ()))), ((b0, ()), ((s, ()), ())))
  | 0, _, _ => rfl
  | n + 1, i, s => by
    have ih := se_mix_loop l ws b0 n
    rw [iter_succ, iter_succ]
    simp only [L_i_mixTurns_1, L_s_l02Mix_1, ih]
    cases ilt i (l.length : Int)
    · rfl
    simp only [cond_t]
    cases ix i l.length with
    | none => rfl
    | some j =>
      simp only [opt_bind_some]
      cases ix 0 l.length with
      | none => rfl
      | some j0 =>
        simp only [opt_bind_some]
        rw [se_InnerOfTurns]
        unfold t_s_l02Opposite
        cases flt .f32 (t_s_l02Inner (l.getD j0 zTurn) (l.getD j zTurn)) 0
        · cases ix i ws.length <;> rfl
        · cases ix i ws.length <;> rfl

theorem se_mixTurns (l : List dTurn) (ws : List Nat) : g_i_mixTurns l ws = g_s_l02Mix l ws := by
  unfold g_i_mixTurns g_s_l02Mix
  simp only [se_mix_loop, se_MendTurn]

theorem rt_mix (l : List dTurn) (ws : List Nat) (h : ws.length = l.length) (hl : l.length < 4611686018427387904) : Ret (g_s_l02Mix l ws) fun _ => True := by
  unfold g_s_l02Mix
  refine Ret.bind' (Ret.iter (fun n d => ∃ (i : Nat) (s : dTurn), i ≤ l.length ∧ n = l.length - i ∧ d = ((l, (ws, ((i : Int), ()))), (((0, (0, (0, (0, ())))), ()), ((s, ()), ())))) (fun _ => True) ?_ fuel l.length _ ⟨0, _, by omega, by omega, rfl⟩ (by unfold fuel; omega)) fun y _ _ => ?_
  · rintro r n d ⟨i, s, h1, h2, rfl⟩ ih
    simp only [L_s_l02Mix_1]
    refine Ret.cond (fun hc => ?_) fun hc => Ret.pure trivial
    (simp only [ilt_T, ilt_F, ile_T, ile_F, ieq_T, ieq_F, bnot_T, bnot_F, ble_T, ble_F, nz_T, nz_F, nonneg_T, nonneg_F] at hc)
    have hi : i < l.length := by omega
    simp only [ix_nat hi, ix_ok (Int.le_refl 0) (show (0 : Int) < (l.length : Int) by omega), ix_nat (show i < ws.length by omega), opt_bind_some, iadd_nat (show i < 4611686018427387904 by omega)]
    exact ih (n - 1) _ (by omega) ⟨i + 1, _, by omega, by omega, rfl⟩
  · exact Ret.bind' (rt_l02Mend _) fun _ _ _ => Ret.pure trivial

def mixOf (l : List dTurn) (ws : List Nat) : dTurn := (g_s_l02Mix l ws).getD zTurn
theorem c_mixOf {l : List dTurn} {ws : List Nat} (h : ws.length = l.length) (hl : l.length < 4611686018427387904) : g_s_l02Mix l ws = some (mixOf l ws) := by
  obtain ⟨y, hy, _⟩ := rt_mix l ws h hl
  unfold mixOf
  rw [hy]; rfl

/-! mixed skins -/
end Go.Fw
