/- The reference's functions and the program's compute the same: machines and runs. No condition. -/
import Derived.Test.YtobcfldhacdpiaaGreatCEq1
set_option linter.unusedVariables false
set_option linter.unusedSimpArgs false
namespace Go.Fw

def clipAt (cs : List dClip) (j : Nat) : Bool := bif clipOK (cs.getD j zClip) then ieq ((cs.getD j zClip).2.2.1.length : Int) ((cs.getD 0 zClip).2.2.1.length : Int) else false
def stateAt (m : dMachine) (j : Nat) : Bool := bif t_s_l00In (m.2.1.getD j zState).1 0 ((m.1.length : Int) - 1) then t_s_l00In (m.2.1.getD j zState).2.1 1 8 else false
def ruleOK (r : dRule) (n : Int) : Bool := bif t_s_l00In r.1 (-1) (n - 1) then bif t_s_l00In r.2.1 0 (n - 1) then bif ieq r.1 r.2.1 then false else bif t_s_l00In r.2.2.1 0 3 then bif t_s_l00In r.2.2.2.1 0 3 then t_s_l00In r.2.2.2.2.2.1 0 100 else false else false else false else false
def ruleAt (m : dMachine) (j : Nat) : Bool := ruleOK (m.2.2.1.getD j zRule) (m.2.1.length : Int)
def clipsOK (cs : List dClip) : Bool := bif t_s_l00In (cs.length : Int) 1 6 then allFrom (clipAt cs) 0 cs.length else false
def machOK (m : dMachine) : Bool := bif clipsOK m.1 then bif t_s_l00In (m.2.1.length : Int) 1 8 then bif ilt 16 (m.2.2.1.length : Int) then false else bif allFrom (stateAt m) 0 m.2.1.length then allFrom (ruleAt m) 0 m.2.2.1.length else false else false else false

theorem clip_sz {cs : List dClip} (h : szL z_Clip cs ≤ 1048576) {j : Nat} (hj : j < cs.length) : z_Clip (cs.getD j zClip) ≤ 1048576 :=
  Nat.le_trans (getD_ok (P := fun x => z_Clip x ≤ szL z_Clip cs) (fun x hx => szL_mem hx) hj) h

theorem c_i_areClips_1 {cs : List dClip} (h : szL z_Clip cs ≤ 1048576) {j : Nat} (hj : j < cs.length) : g_i_areClips_1 (cs.getD j zClip) cs = some (!(clipAt cs j)) := by
  unfold g_i_areClips_1 clipAt
  rw [c_i_ValidClip (clip_sz h hj), opt_bind_some, ix_ok (i := 0) (by omega) (by omega)]
  cases clipOK (cs.getD j zClip) <;> rfl

theorem c_i_areClips {cs : List dClip} (h : szL z_Clip cs ≤ 1048576) : g_i_areClips cs = some (clipsOK cs) := by
  have hl := szL_len (s := z_Clip) cs
  unfold g_i_areClips clipsOK
  have e : t_s_l00In (cs.length : Int) 1 6 = bif ilt (cs.length : Int) 1 then false else bif ilt 6 (cs.length : Int) then false else true := by
    rw [Bool.eq_iff_iff]
    simp only [bif_T, bif_F, ilt_T, ilt_F, l00In_T, l00In_F, reduceCtorEq, and_true, and_false, or_false, false_or]
    try omega
  rw [e]
  cases ilt (cs.length : Int) 1
  rotate_left
  · rfl
  cases ilt 6 (cs.length : Int)
  rotate_left
  · rfl
  simp only [cond_f, cond_t]
  unfold g_slices_ContainsFunc_i_Clip_i_Clip g_slices_IndexFunc_i_Clip_i_Clip
  simp only [opt_bind_assoc, opt_bind_cond, opt_bind_some]
  have := contains_of (step := L_slices_IndexFunc_i_Clip_i_Clip_1) (fun i => ((cs, ((cs, ()), (0, ((cs.length : Int), ((i : Int), ()))))), ())) 0 (clipAt cs) cs.length
    (fun j h3 r => by
      simp only [L_slices_IndexFunc_i_Clip_i_Clip_1]
      rw [ilt_nat h3, ix_nat h3, iadd_nat (by omega), opt_bind_some, cond_t, c_i_areClips_1 h h3, opt_bind_some, bif_not])
    (fun r => by simp only [L_slices_IndexFunc_i_Clip_i_Clip_1, ilt_self, cond_f]) (by omega)
  rw [show ((0 : Nat) : Int) = 0 from rfl] at this
  have key : ∀ (x : Option (Bool × ((Int × Unit) × Unit))) (b : Bool), (Option.bind x fun y => bif y.1 then some (ile 0 y.2.1.1) else some (ile 0 (-1))) = some (!b) → (Option.bind x fun y => bif y.1 then some (!(ile 0 y.2.1.1)) else some (!(ile 0 (-1)))) = some b := by
    intro x b hx
    cases x with
    | none => cases hx
    | some y =>
      obtain ⟨c, ⟨i, u⟩, v⟩ := y
      simp only [opt_bind_some] at hx ⊢
      cases c <;> simp only [cond_t, cond_f, Option.some.injEq] at hx ⊢ <;> rw [hx] <;> cases b <;> rfl
  exact key _ _ this

end Go.Fw
