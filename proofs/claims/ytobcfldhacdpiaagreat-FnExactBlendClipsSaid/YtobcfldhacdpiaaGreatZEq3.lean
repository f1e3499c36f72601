/- The reference's functions and the program's compute the same: poses of runs. No condition. -/
import Derived.Test.YtobcfldhacdpiaaGreatZEq2
set_option linter.unusedVariables false
set_option linter.unusedSimpArgs false
namespace Go.Fw

theorem range_map_getD {α β : Type} (f : α → β) (l : List α) (z : α) : (List.range l.length).map (fun j => f (l.getD j z)) = l.map f := by
  apply List.ext_getElem?
  intro j
  by_cases hj : j < l.length
  · rw [List.getElem?_map, List.getElem?_range hj, List.getElem?_map, List.getElem?_eq_getElem hj, Option.map_some, Option.map_some, List.getD_eq_getElem?_getD, List.getElem?_eq_getElem hj]; rfl
  · rw [List.getElem?_eq_none (by simp; omega), List.getElem?_eq_none (by simp; omega)]

/-! the pose of a clip -/
def rootAtV (l : List dRootKey) (a kind : Int) : dVec := (g_s_l05Root l a kind).getD zVec
def turnAtV (l : List dKey) (a kind : Int) : dTurn := (g_s_l05Turn l a kind).getD zTurn
theorem c_rootV {l : List dRootKey} {n : Int} (h : timesOK (l.map fun x => x.1) n = true) (a kind : Int) : g_s_l05Root l a kind = some (rootAtV l a kind) ∧ g_i_track_i_RootKey_sample ((), ((), ((), ()))) l kind a = some (a, (rootAtV l a kind, ())) := by
  obtain ⟨v, h1, h2⟩ := e_root l h a kind
  unfold rootAtV
  rw [h1, h2]
  exact ⟨rfl, rfl⟩
theorem c_turnV {l : List dKey} {n : Int} (h : timesOK (l.map fun x => x.1) n = true) (a kind : Int) : g_s_l05Turn l a kind = some (turnAtV l a kind) ∧ g_i_track_i_Key_sample ((), ((), ((), ()))) l kind a = some (a, (turnAtV l a kind, ())) := by
  obtain ⟨v, h1, h2⟩ := e_turn l h a kind
  unfold turnAtV
  rw [h1, h2]
  exact ⟨rfl, rfl⟩

def poseAt (c : dClip) (a : Int) : dPose := (rootAtV c.2.2.2.1 a c.2.1, (c.2.2.1.map fun l => turnAtV l a c.2.1, ()))
theorem poseAt_len (c : dClip) (a : Int) : (poseAt c a).2.1.length = c.2.2.1.length := by simp [poseAt]

theorem c_s_l05Pose {c : dClip} (h : clipOK c = true) (a : Int) : g_s_l05Pose c a = some (poseAt c a) := by
  obtain ⟨h1, h2, h3⟩ := clipOK_T h
  obtain ⟨_, _, _, h4⟩ := clipHead_T h1
  unfold g_s_l05Pose
  rw [(c_rootV h3 a c.2.1).1, opt_bind_some]
  have := map_loop (step := L_s_l05Pose_1) (fun i acc => ((c, (a, ((c.2.2.1.length : Int), ((i : Int), ())))), (((0, (0, (0, ()))), ()), (acc, ((rootAtV c.2.2.2.1 a c.2.1, ()), ()))))) (fun acc => ((), (((0, (0, (0, ()))), ()), (acc, ((rootAtV c.2.2.2.1 a c.2.1, ()), ()))))) (fun l => turnAtV l a c.2.1) c.2.2.1
    (fun pre x suf r acc he ha => by
      have hpl : pre.length < c.2.2.1.length := by rw [he]; simp
      have hx : c.2.2.1.getD pre.length [] = x := by rw [he]; exact getD_mid ..
      have ht := h2 pre.length hpl
      unfold trackOK at ht
      rw [hx] at ht
      simp only [L_s_l05Pose_1]
      rw [ilt_nat hpl, ix_nat hpl, iadd_nat (by omega), ble_t (by omega)]
      simp only [opt_bind_some, cond_t, hx]
      rw [(c_turnV ht a c.2.1).1, opt_bind_some])
    (fun r acc => by simp only [L_s_l05Pose_1, ilt_self, cond_f]) (by omega)
  rw [show ((0 : Nat) : Int) = 0 from rfl] at this
  rw [this]
  rfl

theorem c_i_sample {c : dClip} (h : clipOK c = true) (a : Int) : g_i_Clip_sample c a = some (poseAt c a) := by
  obtain ⟨h1, h2, h3⟩ := clipOK_T h
  obtain ⟨_, _, _, h4⟩ := clipHead_T h1
  unfold g_i_Clip_sample g_i_Clip_root
  rw [(c_rootV h3 a c.2.1).2]
  simp only [opt_bind_some]
  rw [mkOk_t (by omega) (Int.le_refl _) (by omega), cond_t]
  have := fill_loop (step := L_i_Clip_sample_1) (fun i acc => ((c, (a, (c.2.2.1, ((c.2.2.1.length : Int), ((i : Int), ()))))), (((0, (0, (0, ()))), ()), (acc, ((rootAtV c.2.2.2.1 a c.2.1, ()), ()))))) (fun acc => ((), (((0, (0, (0, ()))), ()), (acc, ((rootAtV c.2.2.2.1 a c.2.1, ()), ()))))) (fun j => turnAtV (c.2.2.1.getD j []) a c.2.1) c.2.2.1.length
    (fun r i acc hi ha => by
      have ht := h2 i hi
      unfold trackOK at ht
      simp only [L_i_Clip_sample_1]
      rw [ilt_nat hi, ix_nat hi, iadd_nat (by omega), ix_nat (show i < acc.length by omega)]
      simp only [opt_bind_some, cond_t]
      rw [(c_turnV ht a c.2.1).2, opt_bind_some])
    (fun r acc ha => by simp only [L_i_Clip_sample_1, ilt_self, cond_f]) (by omega) (List.replicate c.2.2.1.length (0, (0, (0, (0, ()))))) (by simp)
  rw [show ((0 : Nat) : Int) = 0 from rfl] at this
  rw [this, range_map_getD (fun l => turnAtV l a c.2.1)]
  rfl

/-! blends -/
/-! the pose of a run -/
theorem z_Pose_len (p : dPose) : z_Pose p = p.2.1.length := szL_zero p.2.1

end Go.Fw
