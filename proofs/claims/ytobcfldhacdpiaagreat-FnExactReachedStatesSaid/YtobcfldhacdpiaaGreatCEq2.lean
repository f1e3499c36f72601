/- The reference's functions and the program's compute the same: machines and runs. No condition. -/
import Derived.Test.YtobcfldhacdpiaaGreatCEq1
set_option linter.unusedVariables false
set_option linter.unusedSimpArgs false
namespace Go.Fw

def clipAt (cs : List dClip) (j : Nat) : Bool := bif clipOK (cs.getD j zClip) then ieq ((cs.getD j zClip).2.2.1.length : Int) ((cs.getD 0 zClip).2.2.1.length : Int) else false
def stateAt (m : dMachine) (j : Nat) : Bool := bif t_s_l00In (m.2.1.getD j zState).1 0 ((m.1.length : Int) - 1) then t_s_l00In (m.2.1.getD j zState).2.1 1 8 else false
def ruleOK (r : dRule) (n : Int) : Bool := bif t_s_l00In r.1 (-1) (n - 1) then bif t_s_l00In r.2.1 0 (n - 1) then bif ieq r.1 r.2.1 then false else bif t_s_l00In r.2.2.1 0 3 then bif t_s_l00In r.2.2.2.1 0 3 then t_s_l00In r.2.2.2.2.2.1 0 100 else false else false else false else false
def ruleAt (m : dMachine) (j : Nat) : Bool := ruleOK (m.2.2.1.getD j zRule) (m.2.1.length : Int)
def clipsOK (cs : List dClip) : Bool := bif t_s_l00In (cs.length : Int) 1 6 then allFrom (clipAt cs) 0 cs.length else false
def machOK (m : dMachine) : Bool := bif clipsOK m.1 then bif t_s_l00In (m.2.1.length : Int) 1 8 then bif ilt 16 (m.2.2.1.length : Int) then false else bif allFrom (stateAt m) 0 m.2.1.length then allFrom (ruleAt m) 0 m.2.2.1.length else false else false else false

theorem clip_sz {cs : List dClip} (h : szL z_Clip cs ≤ 1048576) {j : Nat} (hj : j < cs.length) : z_Clip (cs.getD j zClip) ≤ 1048576 :=
  Nat.le_trans (getD_ok (P := fun x => z_Clip x ≤ szL z_Clip cs) (fun x hx => szL_mem hx) hj) h

theorem s_clips_loop (m : dMachine) (a b : Int) (h : szL z_Clip m.1 ≤ 1048576) : iter L_s_l07Is_1 fuel ((m, (false, (a, (b, ((m.1.length : Int), (0, ())))))), ()) = some (bif allFrom (clipAt m.1) 0 m.1.length then (false, ((m, (false, (a, (b, ())))), ())) else (true, ((m, (false, (a, (b, ())))), ()))) := by
  have hl := szL_len (s := z_Clip) m.1
  exact all_loop (step := L_s_l07Is_1) (fun i => ((m, (false, (a, (b, ((m.1.length : Int), ((i : Int), ())))))), ())) (false, ((m, (false, (a, (b, ())))), ())) (true, ((m, (false, (a, (b, ())))), ())) (clipAt m.1) m.1.length
    (fun j h3 r => by
      simp only [L_s_l07Is_1]
      rw [ilt_nat h3, ix_nat h3, iadd_nat (by omega), ix_ok (i := 0) (n := m.1.length) (by omega) (by omega)]
      simp only [opt_bind_some, cond_t]
      rw [c_s_l05Is (clip_sz h h3), opt_bind_some, show (0 : Int).toNat = 0 from rfl]
      unfold clipAt
      cases clipOK (m.1.getD j zClip)
      · rfl
      · simp only [bnot_t, cond_f, cond_t, bif_not])
    (fun r => by simp only [L_s_l07Is_1, ilt_self, cond_f]) (by omega)

theorem s_states_loop (m : dMachine) (b : Int) (h : m.2.1.length ≤ 1048576) (h' : m.1.length ≤ 1048576) : iter L_s_l07Is_2 fuel ((m, (false, ((m.1.length : Int), (b, ((m.2.1.length : Int), (0, ())))))), ()) = some (bif allFrom (stateAt m) 0 m.2.1.length then (false, ((m, (false, (b, ()))), ())) else (true, ((m, (false, (b, ()))), ()))) := by
  exact all_loop (step := L_s_l07Is_2) (fun i => ((m, (false, ((m.1.length : Int), (b, ((m.2.1.length : Int), ((i : Int), ())))))), ())) (false, ((m, (false, (b, ()))), ())) (true, ((m, (false, (b, ()))), ())) (stateAt m) m.2.1.length
    (fun j h3 r => by
      simp only [L_s_l07Is_2]
      rw [ilt_nat h3, ix_nat h3, iadd_nat (by omega), isub_ok (by omega) (by omega)]
      simp only [opt_bind_some, cond_t]
      unfold stateAt
      cases t_s_l00In (m.2.1.getD j zState).1 0 ((m.1.length : Int) - 1)
      · rfl
      · simp only [bnot_t, cond_f, cond_t, bif_not])
    (fun r => by simp only [L_s_l07Is_2, ilt_self, cond_f]) (by omega)

theorem s_rules_loop (m : dMachine) (h : m.2.2.1.length ≤ 1048576) (h' : m.2.1.length ≤ 1048576) : iter L_s_l07Is_3 fuel ((m, (false, ((m.2.1.length : Int), ((m.2.2.1.length : Int), (0, ()))))), ()) = some (bif allFrom (ruleAt m) 0 m.2.2.1.length then (false, ((false, ()), ())) else (true, ((false, ()), ()))) := by
  exact all_loop (step := L_s_l07Is_3) (fun i => ((m, (false, ((m.2.1.length : Int), ((m.2.2.1.length : Int), ((i : Int), ()))))), ())) (false, ((false, ()), ())) (true, ((false, ()), ())) (ruleAt m) m.2.2.1.length
    (fun j h3 r => by
      simp only [L_s_l07Is_3]
      rw [ilt_nat h3, ix_nat h3, iadd_nat (by omega), isub_ok (by omega) (by omega)]
      simp only [opt_bind_some, cond_t]
      unfold ruleAt ruleOK
      cases t_s_l00In (m.2.2.1.getD j zRule).1 (-1) ((m.2.1.length : Int) - 1)
      · rfl
      cases t_s_l00In (m.2.2.1.getD j zRule).2.1 0 ((m.2.1.length : Int) - 1)
      · rfl
      cases ieq (m.2.2.1.getD j zRule).1 (m.2.2.1.getD j zRule).2.1
      rotate_left
      · rfl
      cases t_s_l00In (m.2.2.1.getD j zRule).2.2.1 0 3
      · rfl
      cases t_s_l00In (m.2.2.1.getD j zRule).2.2.2.1 0 3
      · rfl
      simp only [bnot_t, cond_f, cond_t, bif_not])
    (fun r => by simp only [L_s_l07Is_3, ilt_self, cond_f]) (by omega)

theorem mach_sz {m : dMachine} (h : z_Machine m ≤ 1048576) : szL z_Clip m.1 ≤ 1048576 ∧ m.1.length ≤ 1048576 ∧ m.2.1.length ≤ 1048576 ∧ m.2.2.1.length ≤ 1048576 := by
  have h1 := szL_len (s := z_Clip) m.1
  have h2 := szL_len (s := z_State) m.2.1
  have h3 := szL_len (s := z_Rule) m.2.2.1
  unfold z_Machine at h
  omega

theorem c_s_l07Is {m : dMachine} (h : z_Machine m ≤ 1048576) : g_s_l07Is m = some (machOK m) := by
  obtain ⟨h0, h1, h2, h3⟩ := mach_sz h
  unfold g_s_l07Is machOK clipsOK
  rw [s_clips_loop m _ _ h0]
  cases t_s_l00In (m.1.length : Int) 1 6
  · rfl
  cases t_s_l00In (m.2.1.length : Int) 1 8
  · cases allFrom (clipAt m.1) 0 m.1.length <;> rfl
  cases ilt 16 (m.2.2.1.length : Int)
  rotate_left
  · cases allFrom (clipAt m.1) 0 m.1.length <;> rfl
  cases allFrom (clipAt m.1) 0 m.1.length
  · rfl
  simp only [bnot_t, cond_f, cond_t, opt_bind_some]
  rw [s_states_loop m _ h2 h1]
  cases allFrom (stateAt m) 0 m.2.1.length
  · rfl
  simp only [bnot_t, cond_f, cond_t, opt_bind_some]
  rw [s_rules_loop m h3 h2]
  cases allFrom (ruleAt m) 0 m.2.2.1.length <;> rfl

theorem c_i_areClips_1 {cs : List dClip} (h : szL z_Clip cs ≤ 1048576) {j : Nat} (hj : j < cs.length) : g_i_areClips_1 (cs.getD j zClip) cs = some (!(clipAt cs j)) := by
  unfold g_i_areClips_1 clipAt
  rw [c_i_ValidClip (clip_sz h hj), opt_bind_some, ix_ok (i := 0) (by omega) (by omega)]
  cases clipOK (cs.getD j zClip) <;> rfl

theorem c_i_areClips {cs : List dClip} (h : szL z_Clip cs ≤ 1048576) : g_i_areClips cs = some (clipsOK cs) := by
  have hl := szL_len (s := z_Clip) cs
  unfold g_i_areClips clipsOK
  have e : t_s_l00In (cs.length : Int) 1 6 = bif ilt (cs.length : Int) 1 then false else bif ilt 6 (cs.length : Int) then false else true := by
    rw [Bool.eq_iff_iff]
    simp only [bif_T, bif_F, ilt_T, ilt_F, l00In_T, l00In_F, reduceCtorEq, and_true, and_false, or_false, false_or]
    try omega
  rw [e]
  cases ilt (cs.length : Int) 1
  rotate_left
  · rfl
  cases ilt 6 (cs.length : Int)
  rotate_left
  · rfl
  simp only [cond_f, cond_t]
  unfold g_slices_ContainsFunc_i_Clip_i_Clip g_slices_IndexFunc_i_Clip_i_Clip
  simp only [opt_bind_assoc, opt_bind_cond, opt_bind_some]
  have := contains_of (step := L_slices_IndexFunc_i_Clip_i_Clip_1) (fun i => ((cs, ((cs, ()), (0, ((cs.length : Int), ((i : Int), ()))))), ())) 0 (clipAt cs) cs.length
    (fun j h3 r => by
      simp only [L_slices_IndexFunc_i_Clip_i_Clip_1]
      rw [ilt_nat h3, ix_nat h3, iadd_nat (by omega), opt_bind_some, cond_t, c_i_areClips_1 h h3, opt_bind_some, bif_not])
    (fun r => by simp only [L_slices_IndexFunc_i_Clip_i_Clip_1, ilt_self, cond_f]) (by omega)
  rw [show ((0 : Nat) : Int) = 0 from rfl] at this
  have key : ∀ (x : Option (Bool × ((Int × Unit) × Unit))) (b : Bool), (Option.bind x fun y => bif y.1 then some (ile 0 y.2.1.1) else some (ile 0 (-1))) = some (!b) → (Option.bind x fun y => bif y.1 then some (!(ile 0 y.2.1.1)) else some (!(ile 0 (-1)))) = some b := by
    intro x b hx
    cases x with
    | none => cases hx
    | some y =>
      obtain ⟨c, ⟨i, u⟩, v⟩ := y
      simp only [opt_bind_some] at hx ⊢
      cases c <;> simp only [cond_t, cond_f, Option.some.injEq] at hx ⊢ <;> rw [hx] <;> cases b <;> rfl
  exact key _ _ this

theorem c_i_rule (r : dRule) (n : Int) : t_i_ValidMachine_1 r n = !(ruleOK r n) := by
  unfold t_i_ValidMachine_1 ruleOK
  rw [Bool.eq_iff_iff]
  simp only [bif_T, bif_F, ilt_T, ilt_F, ile_T, ile_F, ieq_T, ieq_F, bnot_T, bnot_F, l00In_T, l00In_F, reduceCtorEq, and_true, and_false, or_false, false_or, true_and, false_and]
  omega

theorem i_states_loop (m : dMachine) (h : m.2.1.length ≤ 1048576) (h' : m.1.length ≤ 1048576) : iter L_i_ValidMachine_1 fuel ((false, (m.2.1, ((m.2.1.length : Int), (0, ())))), ((m, ()), ())) = some (bif allFrom (stateAt m) 0 m.2.1.length then (false, ((false, ()), ((m, ()), ()))) else (true, ((false, ()), ((m, ()), ())))) := by
  exact all_loop (step := L_i_ValidMachine_1) (fun i => ((false, (m.2.1, ((m.2.1.length : Int), ((i : Int), ())))), ((m, ()), ()))) (false, ((false, ()), ((m, ()), ()))) (true, ((false, ()), ((m, ()), ()))) (stateAt m) m.2.1.length
    (fun j h3 r => by
      simp only [L_i_ValidMachine_1]
      rw [ilt_nat h3, ix_nat h3, iadd_nat (by omega)]
      simp only [opt_bind_some, cond_t]
      have e : stateAt m j = bif ilt (m.2.1.getD j zState).1 0 then false else bif ile (m.1.length : Int) (m.2.1.getD j zState).1 then false else bif ilt (m.2.1.getD j zState).2.1 1 then false else bif ilt 8 (m.2.1.getD j zState).2.1 then false else true := by
        unfold stateAt
        rw [Bool.eq_iff_iff]
        simp only [bif_T, bif_F, ilt_T, ilt_F, ile_T, ile_F, l00In_T, l00In_F, reduceCtorEq, and_true, and_false, or_false, false_or]
        omega
      rw [e]
      cases ilt (m.2.1.getD j zState).1 0
      · cases ile (m.1.length : Int) (m.2.1.getD j zState).1
        · cases ilt (m.2.1.getD j zState).2.1 1
          · cases ilt 8 (m.2.1.getD j zState).2.1 <;> rfl
          · rfl
        · rfl
      · rfl)
    (fun r => by simp only [L_i_ValidMachine_1, ilt_self, cond_f]) (by omega)

theorem c_i_ValidMachine {m : dMachine} (h : z_Machine m ≤ 1048576) : g_i_ValidMachine m = some (machOK m) := by
  obtain ⟨h0, h1, h2, h3⟩ := mach_sz h
  unfold g_i_ValidMachine machOK
  rw [c_i_areClips h0, opt_bind_some]
  cases clipsOK m.1
  · rfl
  have e : t_s_l00In (m.2.1.length : Int) 1 8 = bif ilt (m.2.1.length : Int) 1 then false else bif ilt 8 (m.2.1.length : Int) then false else true := by
    rw [Bool.eq_iff_iff]
    simp only [bif_T, bif_F, ilt_T, ilt_F, l00In_T, l00In_F, reduceCtorEq, and_true, and_false, or_false, false_or]
    try omega
  rw [e]
  cases ilt (m.2.1.length : Int) 1
  rotate_left
  · rfl
  cases ilt 8 (m.2.1.length : Int)
  rotate_left
  · rfl
  cases ilt 16 (m.2.2.1.length : Int)
  rotate_left
  · rfl
  simp only [bnot_t, cond_f, cond_t]
  rw [i_states_loop m h2 h1]
  cases allFrom (stateAt m) 0 m.2.1.length
  · rfl
  simp only [cond_f, cond_t, opt_bind_some]
  unfold g_slices_ContainsFunc_i_Rule_i_Rule g_slices_IndexFunc_i_Rule_i_Rule
  simp only [opt_bind_assoc, opt_bind_cond, opt_bind_some]
  have := contains_of (step := L_slices_IndexFunc_i_Rule_i_Rule_1) (fun i => ((m.2.2.1, (((m.2.1.length : Int), ()), (0, ((m.2.2.1.length : Int), ((i : Int), ()))))), ())) 0 (ruleAt m) m.2.2.1.length
    (fun j h3 r => by
      simp only [L_slices_IndexFunc_i_Rule_i_Rule_1]
      rw [ilt_nat h3, ix_nat h3, iadd_nat (by omega), opt_bind_some, cond_t, c_i_rule, bif_not]
      rfl)
    (fun r => by simp only [L_slices_IndexFunc_i_Rule_i_Rule_1, ilt_self, cond_f]) (by omega)
  rw [show ((0 : Nat) : Int) = 0 from rfl] at this
  have key : ∀ (x : Option (Bool × ((Int × Unit) × Unit))) (b : Bool), (Option.bind x fun y => bif y.1 then some (ile 0 y.2.1.1) else some (ile 0 (-1))) = some (!b) → (Option.bind x fun y => bif y.1 then some (!(ile 0 y.2.1.1)) else some (!(ile 0 (-1)))) = some b := by
    intro x b hx
    cases x with
    | none => cases hx
    | some y =>
      obtain ⟨c, ⟨i, u⟩, v⟩ := y
      simp only [opt_bind_some] at hx ⊢
      cases c <;> simp only [cond_t, cond_f, Option.some.injEq] at hx ⊢ <;> rw [hx] <;> cases b <;> rfl
  exact key _ _ this

end Go.Fw
