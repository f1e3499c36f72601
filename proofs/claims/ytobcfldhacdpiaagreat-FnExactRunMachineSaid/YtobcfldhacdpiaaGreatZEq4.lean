/- The reference's functions and the program's compute the same: machines that run. No condition. -/
import Derived.Test.YtobcfldhacdpiaaGreatZEq3
set_option linter.unusedVariables false
set_option linter.unusedSimpArgs false
namespace Go.Fw

def zeroRun : dRun := (0, (0, (0, (0, (0, (0, ()))))))
def nextR (m : dMachine) (r : dRun) (l : List Nat) : dRun := (g_s_l07Step m r l).getD zeroRun
theorem c_nextR {m : dMachine} (h : machOK m = true) {r : dRun} (hr : RunT m r) {l : List Nat} (hl : l.length = 4) : g_s_l07Step m r l = some (nextR m r l) ∧ g_i_Machine_step m r l = some (nextR m r l) ∧ RunT m (nextR m r l) := by
  obtain ⟨y, hy, h1, h2⟩ := rt_First h (runOK_iff.2 hr) hl
  have hs := c_s_l07Step h hr hy h2
  unfold nextR
  rw [hs]
  exact ⟨rfl, c_i_step h hr hy h2, stepV_run h hr h2⟩

def runN (m : dMachine) (r : dRun) (ls : List (List Nat)) : Nat → dRun
  | 0 => r
  | i + 1 => nextR m (runN m r ls i) (ls.getD i [])
def posesN (m : dMachine) (r : dRun) (ls : List (List Nat)) (n : Nat) : List dPose := (List.range n).map fun j => poseOf m (runN m r ls (j + 1))
theorem posesN_len (m : dMachine) (r : dRun) (ls : List (List Nat)) (n : Nat) : (posesN m r ls n).length = n := by simp [posesN]
theorem posesN_succ (m : dMachine) (r : dRun) (ls : List (List Nat)) (n : Nat) : posesN m r ls (n + 1) = posesN m r ls n ++ [poseOf m (runN m r ls (n + 1))] := range_map_succ _ _
theorem runN_ok {m : dMachine} (h : machOK m = true) {r : dRun} (hr : RunT m r) {ls : List (List Nat)} : ∀ i, i ≤ ls.length → (∀ j, j < i → (ls.getD j []).length = 4) → RunT m (runN m r ls i)
  | 0, _, _ => hr
  | i + 1, hi, hf => (c_nextR h (runN_ok h hr i (by omega) fun j hj => hf j (by omega)) (hf i (by omega))).2.2

theorem szL_le {α : Type} {s : α → Nat} {k : Nat} : ∀ {l : List α}, (∀ x, x ∈ l → s x ≤ k) → szL s l ≤ l.length * (1 + k)
  | [], _ => by simp [szL]
  | x :: l, h => by
    have h1 := h x (by simp)
    have h2 := szL_le (k := k) (l := l) fun y hy => h y (by simp [hy])
    simp only [szL, List.length_cons, Nat.add_mul, Nat.one_mul]
    omega

theorem s_run_loop {m : dMachine} (h : machOK m = true) {r : dRun} (hr : RunT m r) {ls : List (List Nat)} (hn : ls.length ≤ 64) (hf : ∀ j, j < ls.length → (ls.getD j []).length = 4) (b2 : dRun) : ∀ (k i N : Nat), i + k = ls.length → k < N →
    iter L_s_RunMachine_2 N ((ls, ((ls.length : Int), ((i : Int), ()))), ((m, ()), ((runN m r ls i, ()), ((b2, ()), (posesN m r ls i, ()))))) = some ((), ((runN m r ls ls.length, ()), ((b2, ()), (posesN m r ls ls.length, ()))))
  | 0, i, N, h1, h2 => by
    obtain _ | N := N
    · omega
    rw [iter_succ, show i = ls.length by omega]
    simp only [L_s_RunMachine_2, ilt_self, cond_f]
  | k + 1, i, N, h1, h2 => by
    obtain _ | N := N
    · omega
    have hi : i < ls.length := by omega
    have ih := s_run_loop h hr hn hf b2 k (i + 1) N (by omega) (by omega)
    obtain ⟨g1, g2, g3⟩ := c_nextR h (runN_ok h hr i (by omega) fun j hj => hf j (by omega)) (hf i hi)
    rw [posesN_succ] at ih
    rw [iter_succ]
    simp only [L_s_RunMachine_2, posesN_len, List.nil_append, List.length_cons, List.length_nil]
    rw [ilt_nat hi, ix_nat hi, iadd_nat (by omega)]
    simp only [opt_bind_some, cond_t]
    rw [g1, opt_bind_some, c_s_l07Pose h g3, opt_bind_some, ble_t (by omega), cond_t]
    exact ih

theorem i_run_loop {m : dMachine} (h : machOK m = true) {r : dRun} (hr : RunT m r) {ls : List (List Nat)} (hn : ls.length ≤ 64) (b2 : dRun) :
    Ret (iter L_i_RunMachine_1 fuel ((false, (ls, ((ls.length : Int), (0, ())))), ((m, ()), ((r, ()), ((b2, ()), ([], ())))))) fun o =>
      (o.1 = false → (∀ j, j < ls.length → (ls.getD j []).length = 4) ∧ o.2.2.1.1 = runN m r ls ls.length ∧ o.2.2.2.2.1 = posesN m r ls ls.length) ∧ (o.1 = true → (∃ j, j < ls.length ∧ (ls.getD j []).length ≠ 4) ∧ o.2.2.2.1.1 = zeroRun ∧ o.2.1.1 = false) := by
  refine Ret.iter (fun n d => ∃ i : Nat, i ≤ ls.length ∧ n = ls.length - i ∧ (∀ j, j < i → (ls.getD j []).length = 4) ∧ d = ((false, (ls, ((ls.length : Int), ((i : Int), ())))), ((m, ()), ((runN m r ls i, ()), ((b2, ()), (posesN m r ls i, ())))))) _ ?_ fuel ls.length _ ⟨0, by omega, by omega, fun j hj => by omega, rfl⟩ (by unfold fuel; omega)
  rintro f n d ⟨i, hi, hn', hf, rfl⟩ ih
  simp only [L_i_RunMachine_1]
  refine Ret.cond (fun hc => ?_) fun hc => ?_
  · (simp only [ilt_T, ilt_F, ile_T, ile_F, ieq_T, ieq_F, bnot_T, bnot_F, ble_T, ble_F, nz_T, nz_F, nonneg_T, nonneg_F] at hc)
    have hil : i < ls.length := by omega
    rw [ix_nat hil, opt_bind_some]
    refine Ret.cond (fun hd => ?_) fun hd => ?_
    · (simp only [ilt_T, ilt_F, ile_T, ile_F, ieq_T, ieq_F, bnot_T, bnot_F, ble_T, ble_F, nz_T, nz_F, nonneg_T, nonneg_F] at hd)
      exact Ret.pure ⟨nofun, fun _ => ⟨⟨i, hil, by omega⟩, rfl, rfl⟩⟩
    · (simp only [ilt_T, ilt_F, ile_T, ile_F, ieq_T, ieq_F, bnot_T, bnot_F, ble_T, ble_F, nz_T, nz_F, nonneg_T, nonneg_F] at hd)
      obtain ⟨g1, g2, g3⟩ := c_nextR h (runN_ok h hr i (by omega) hf) (l := ls.getD i []) (by omega)
      rw [g2, opt_bind_some, c_i_pose h g3, opt_bind_some, posesN_len, iadd_nat (by omega)]
      simp only [List.nil_append, List.length_cons, List.length_nil]
      rw [ble_t (by omega), cond_t]
      refine ih (n - 1) _ (by omega) ⟨i + 1, by omega, by omega, fun j hj => ?_, by rw [posesN_succ]; rfl⟩
      rcases Nat.lt_or_ge j i with h1 | h1
      · exact hf j h1
      · rw [show j = i by omega]; omega
  · (simp only [ilt_T, ilt_F, ile_T, ile_F, ieq_T, ieq_F, bnot_T, bnot_F, ble_T, ble_F, nz_T, nz_F, nonneg_T, nonneg_F] at hc)
    have e : i = ls.length := by omega
    subst e
    exact Ret.pure ⟨fun _ => ⟨hf, rfl, rfl⟩, nofun⟩

theorem e_RunMachine (m : dMachine) (r : dRun) (ls : List (List Nat)) (h : (z_Machine m : Int) ≤ 1048576) (h' : (szL z_F32S ls : Int) ≤ 1048576) (hok : okPs [.ro true tMachine, .ro true tRun, .ro false (.slice (.slice (.flt .f32)))] (m, r, ls, ())) : Same (g_s_RunMachine m r ls) (g_i_RunMachine m r ls) fun y => szL z_Pose y.2.1 ≤ 1048576 := by
  have h0 : szL z_Pose [] ≤ 1048576 := by simp [szL]
  unfold g_s_RunMachine g_i_RunMachine
  rw [c_s_l07Is (by omega), c_i_IsRun (by omega), opt_bind_some, opt_bind_some]
  cases hm : machOK m
  · exact Same.pure h0
  rw [c_s_l07Run hm]
  simp only [bnot_t, cond_f, cond_t, opt_bind_some]
  cases hr : runOK m r
  · exact Same.pure h0
  simp only [bnot_t, cond_f]
  cases hn : ilt 64 (ls.length : Int)
  rotate_left
  · exact Same.pure h0
  (simp only [ilt_T, ilt_F, ile_T, ile_F, ieq_T, ieq_F, bnot_T, bnot_F, ble_T, ble_F, nz_T, nz_F, nonneg_T, nonneg_F] at hn)
  rw [cond_f, cond_f]
  have hT := runOK_iff.1 hr
  have hall := all_loop (step := L_s_RunMachine_1) (fun i => ((ls, (false, ((ls.length : Int), ((i : Int), ())))), ((m, ()), ((r, ()), ((zeroRun, ()), ()))))) (false, ((ls, (false, ())), ((m, ()), ((r, ()), ((zeroRun, ()), ()))))) (true, ((ls, (false, ())), ((m, ()), ((r, ()), ((zeroRun, ()), ()))))) (fun j => ieq ((ls.getD j []).length : Int) 4) ls.length
    (fun j h3 f => by
      simp only [L_s_RunMachine_1]
      rw [ilt_nat h3, ix_nat h3, iadd_nat (by omega), opt_bind_some, cond_t, bif_not]
      rfl)
    (fun f => by simp only [L_s_RunMachine_1, ilt_self, cond_f]) (by omega)
  rw [show ((0 : Nat) : Int) = 0 from rfl] at hall
  obtain ⟨o, ho, ho1, ho2⟩ := i_run_loop hm hT (ls := ls) (by omega) zeroRun
  have e0 : ((0, (0, (0, (0, (0, (0, ())))))) : dRun) = zeroRun := rfl
  rw [e0, hall, ho, opt_bind_some, opt_bind_some]
  cases hb : o.1
  · obtain ⟨h3, h4, h5⟩ := ho1 hb
    rw [allFrom_of (fun j _ hj => by rw [h3 j (by omega)]; rfl), cond_t, cond_f, cond_f, List.append_nil]
    have hs := s_run_loop hm hT (ls := ls) (by omega) h3 zeroRun ls.length 0 fuel (by omega) (by unfold fuel; omega)
    rw [show ((0 : Nat) : Int) = 0 from rfl, show posesN m r ls 0 = [] from rfl, show runN m r ls 0 = r from rfl] at hs
    dsimp only
    rw [hs, opt_bind_some, h4, h5]
    refine Same.pure ?_
    show szL z_Pose (posesN m r ls ls.length) ≤ _
    have := szL_le (s := z_Pose) (k := 12) (l := posesN m r ls ls.length) fun x hx => by
      obtain ⟨j, hj, rfl⟩ := List.mem_map.1 hx
      rw [List.mem_range] at hj
      rw [z_Pose_len]
      exact poseOf_len hm (runN_ok hm hT (j + 1) (by omega) fun i hi => h3 i (by omega))
    rw [posesN_len] at this
    omega
  · obtain ⟨⟨j, hj, hne⟩, h4, h5⟩ := ho2 hb
    have : allFrom (fun j => ieq ((ls.getD j []).length : Int) 4) 0 ls.length = false := by
      cases hx : allFrom (fun j => ieq ((ls.getD j []).length : Int) 4) 0 ls.length
      · rfl
      · have := allFrom_T hx j (Nat.zero_le _) (by omega)
        (simp only [ilt_T, ilt_F, ile_T, ile_F, ieq_T, ieq_F, bnot_T, bnot_F, ble_T, ble_F, nz_T, nz_F, nonneg_T, nonneg_F] at this)
        omega
    rw [this, cond_f, cond_t, cond_t, h4, h5]
    exact Same.pure h0
end Go.Fw
