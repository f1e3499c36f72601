/- The reference's functions and the program's compute the same: what a run is. No condition. -/
import Derived.Test.YtmfmdoppjcaedaaGreatDoorFwE
import Derived.Test.YtmfmdoppjcaedaaGreatDoorVThy
set_option linter.unusedVariables false
set_option linter.unusedSimpArgs false
namespace Go.Fw
theorem l00In_T (a b c : Int) : (t_s_l00In a b c = true) = (b ≤ a ∧ a ≤ c) := by
  unfold t_s_l00In ile
  by_cases h : b ≤ a <;> simp [h]
theorem l00In_F (a b c : Int) : (t_s_l00In a b c = false) = ¬ (b ≤ a ∧ a ≤ c) := by
  unfold t_s_l00In ile
  by_cases h : b ≤ a <;> simp [h]
theorem getD_ok {α : Type} {P : α → Prop} {l : List α} {z : α} {j : Nat} (h : ∀ x ∈ l, P x) (hj : j < l.length) : P (l.getD j z) := by
  rw [List.getD_eq_getElem?_getD, List.getElem?_eq_getElem hj]
  exact h _ (List.getElem_mem _)
def risesAt (l : List Int) (low high : Int) (i : Nat) : Bool := bif t_s_l00In (l.getD i 0) low high then bif ilt 0 (i : Int) then !(ile (l.getD i 0) (l.getD (i - 1) 0)) else true else false
def rises (l : List Int) (low high : Int) : Bool := allFrom (risesAt l low high) 0 l.length
def lastOf (l : List Int) : Nat → Int
  | 0 => -1
  | i + 1 => l.getD i 0
theorem lastOf_zero (l : List Int) : lastOf l 0 = -1 := rfl
theorem lastOf_succ (l : List Int) (i : Nat) : lastOf l (i + 1) = l.getD i 0 := rfl
def risesI (l : List Int) (n : Int) (i : Nat) : Bool := bif ile (l.getD i 0) (lastOf l i) then false else !(ile n (l.getD i 0))
theorem risesI_eq (l : List Int) (n : Int) (h : n < 4611686018427387904) : allFrom (risesI l n) 0 l.length = rises l 0 (n - 1) := by
  unfold rises
  refine allFrom_eq ⟨fun h1 => ?_, fun h1 => ?_⟩
  · intro j
    induction j with
    | zero =>
      intro h2 h3
      have := h1 0 h2 h3
      unfold risesI at this
      rw [lastOf_zero] at this
      unfold risesAt
      cases h5 : ile (l.getD 0 0) (-1)
      · rw [h5, cond_f] at this
        (simp only [ilt_T, ilt_F, ile_T, ile_F, ieq_T, ieq_F, bnot_T, bnot_F, ble_T, ble_F, nz_T, nz_F, nonneg_T, nonneg_F] at h5)
        (simp only [ilt_T, ilt_F, ile_T, ile_F, ieq_T, ieq_F, bnot_T, bnot_F, ble_T, ble_F, nz_T, nz_F, nonneg_T, nonneg_F] at this)
        rw [(l00In_T _ _ _).mpr (by omega), ilt_f (by omega)]; rfl
      · rw [h5] at this; cases this
    | succ j ih =>
      intro h2 h3
      have h4 := ih (by omega) (by omega)
      have := h1 (j + 1) h2 h3
      unfold risesI at this
      rw [lastOf_succ] at this
      unfold risesAt at h4 ⊢
      cases h5 : ile (l.getD (j + 1) 0) (l.getD j 0)
      · rw [h5, cond_f] at this
        (simp only [ilt_T, ilt_F, ile_T, ile_F, ieq_T, ieq_F, bnot_T, bnot_F, ble_T, ble_F, nz_T, nz_F, nonneg_T, nonneg_F] at this)
        have h6 : t_s_l00In (l.getD j 0) 0 (n - 1) = true := by
          cases hx : t_s_l00In (l.getD j 0) 0 (n - 1)
          · rw [hx] at h4; cases h4
          · rfl
        rw [l00In_T] at h6
        have h7 := h5
        (simp only [ilt_T, ilt_F, ile_T, ile_F, ieq_T, ieq_F, bnot_T, bnot_F, ble_T, ble_F, nz_T, nz_F, nonneg_T, nonneg_F] at h7)
        rw [(l00In_T _ _ _).mpr (by omega), ilt_t (by omega), cond_t, cond_t, Nat.add_sub_cancel, h5]; rfl
      · rw [h5] at this; cases this
  · intro j h2 h3
    have h4 := h1 j h2 h3
    unfold risesAt at h4
    cases hx : t_s_l00In (l.getD j 0) 0 (n - 1)
    · rw [hx] at h4; cases h4
    rw [hx, cond_t] at h4
    rw [l00In_T] at hx
    unfold risesI
    cases j with
    | zero =>
      rw [lastOf_zero, ile_f (by omega), cond_f, ile_f (by omega)]; rfl
    | succ j =>
      rw [ilt_t (by omega), cond_t, Nat.add_sub_cancel] at h4
      (simp only [ilt_T, ilt_F, ile_T, ile_F, ieq_T, ieq_F, bnot_T, bnot_F, ble_T, ble_F, nz_T, nz_F, nonneg_T, nonneg_F] at h4)
      rw [lastOf_succ, ile_f (by omega), cond_f, ile_f (by omega)]; rfl
def timesOK (l : List Int) (n : Int) : Bool := bif rises l 0 n then t_s_l00In (l.length : Int) 1 12 else false
theorem c_s_l05Times (l : List Int) (n : Int) (h : l.length < 4611686018427387904) : g_s_l05Times l n = some (timesOK l n) := by
  unfold g_s_l05Times timesOK rises
  have := all_loop (step := L_s_l05Times_1) (fun i => ((l, (n, (false, ((l.length : Int), ((i : Int), ()))))), ())) (false, ((l, (false, ())), ())) (true, ((l, (false, ())), ())) (risesAt l 0 n) l.length
    (fun j h3 r => by
      simp only [L_s_l05Times_1]
      rw [ilt_nat h3, ix_nat h3, iadd_nat (by omega), opt_bind_some, cond_t]
      unfold risesAt
      cases t_s_l00In (l.getD j 0) 0 n
      · rfl
      by_cases h0 : 0 < j
      · rw [ilt_t (by omega), isub_ok (by omega) (by omega), ix_ok (by omega) (by omega), show ((j : Int) - 1).toNat = j - 1 by omega]
        simp only [opt_bind_some, bnot_t, cond_f, cond_t, bif_not]
      · rw [ilt_f (by omega)]; rfl)
    (fun r => by simp only [L_s_l05Times_1, ilt_self, cond_f]) h
  rw [show ((0 : Nat) : Int) = 0 from rfl] at this
  rw [this]
  cases allFrom (risesAt l 0 n) 0 l.length
  · rfl
  · simp only [cond_t, opt_bind_some, cond_f]
    unfold t_s_l00In
    cases ile 1 (l.length : Int) <;> rfl
theorem c_s_l05At (l : List dKey) (h : l.length ≤ 1048576) : g_s_l05At l = some (l.map fun x => x.1) := by
  unfold g_s_l05At
  have := map_loop (step := L_s_l05At_1) (fun i acc => ((l, ((l.length : Int), ((i : Int), ()))), (acc, ()))) (fun acc => ((), (acc, ()))) (fun x : dKey => x.1) l
    (fun pre x suf r acc he ha => by
      have hp : pre.length < l.length := by rw [he]; simp
      simp only [L_s_l05At_1]
      rw [ilt_nat hp, ix_nat hp, iadd_nat (by omega), ble_t (by omega)]
      simp only [opt_bind_some, cond_t]
      rw [show l.getD pre.length zKey = x by rw [he]; exact getD_mid ..])
    (fun r acc => by simp only [L_s_l05At_1, ilt_self, cond_f]) (by omega)
  rw [show ((0 : Nat) : Int) = 0 from rfl] at this
  rw [this]; rfl
theorem c_s_l05RootAt (l : List dRootKey) (h : l.length ≤ 1048576) : g_s_l05RootAt l = some (l.map fun x => x.1) := by
  unfold g_s_l05RootAt
  have := map_loop (step := L_s_l05RootAt_1) (fun i acc => ((l, ((l.length : Int), ((i : Int), ()))), (acc, ()))) (fun acc => ((), (acc, ()))) (fun x : dRootKey => x.1) l
    (fun pre x suf r acc he ha => by
      have hp : pre.length < l.length := by rw [he]; simp
      simp only [L_s_l05RootAt_1]
      rw [ilt_nat hp, ix_nat hp, iadd_nat (by omega), ble_t (by omega)]
      simp only [opt_bind_some, cond_t]
      rw [show l.getD pre.length zRootKey = x by rw [he]; exact getD_mid ..])
    (fun r acc => by simp only [L_s_l05RootAt_1, ilt_self, cond_f]) (by omega)
  rw [show ((0 : Nat) : Int) = 0 from rfl] at this
  rw [this]; rfl
theorem ilt_ile (a b : Int) : ilt a b = ile (a + 1) b := by ((rw [Bool.eq_iff_iff]; simp only [bif_T, bif_F, ilt_T, ilt_F, ile_T, ile_F, ieq_T, ieq_F, bnot_T, bnot_F, reduceCtorEq, and_true, and_false, or_false, false_or, true_and, false_and]; omega))
theorem c_i_track_Key (l : List dKey) (n : Int) (h : l.length < 4611686018427387904) (hn : n < 4611686018427387903) : g_i_track_i_Key_valid ((), ((), ((), ()))) l n = some (timesOK (l.map fun x => x.1) n) := by
  unfold g_i_track_i_Key_valid timesOK
  have := all_loop (step := L_i_track_i_Key_valid_1) (fun i => ((l, (n, (false, (lastOf (l.map fun x => x.1) i, (l, ((l.length : Int), ((i : Int), ()))))))), ((((), ((), ((), ()))), ()), ()))) (false, ((l, (false, ())), ())) (true, ((l, (false, ())), ())) (risesI (l.map fun x => x.1) (n + 1)) l.length
    (fun j h3 r => by
      simp only [L_i_track_i_Key_valid_1, t_i_turnTrack_1]
      rw [ilt_nat h3, ix_nat h3, iadd_nat (by omega), opt_bind_some, cond_t, lastOf_succ]
      unfold risesI
      rw [map_getD (fun x : dKey => x.1) l j zKey 0 h3, ilt_ile n]
      cases ile (l.getD j zKey).1 (lastOf (l.map fun x => x.1) j)
      · cases ile (n + 1) (l.getD j zKey).1 <;> rfl
      · rfl)
    (fun r => by simp only [L_i_track_i_Key_valid_1, ilt_self, cond_f]) h
  have e := risesI_eq (l.map fun x => x.1) (n + 1) (by omega)
  rw [List.length_map] at e
  rw [e, show n + 1 - 1 = n by omega, show ((0 : Nat) : Int) = 0 from rfl, lastOf_zero] at this
  rw [this, List.length_map]
  cases rises (l.map fun x => x.1) 0 n
  · rfl
  · simp only [cond_t, opt_bind_some, cond_f]
    unfold t_s_l00In
    cases ile 1 (l.length : Int) <;> rfl
theorem c_i_track_RootKey (l : List dRootKey) (n : Int) (h : l.length < 4611686018427387904) (hn : n < 4611686018427387903) : g_i_track_i_RootKey_valid ((), ((), ((), ()))) l n = some (timesOK (l.map fun x => x.1) n) := by
  unfold g_i_track_i_RootKey_valid timesOK
  have := all_loop (step := L_i_track_i_RootKey_valid_1) (fun i => ((l, (n, (false, (lastOf (l.map fun x => x.1) i, (l, ((l.length : Int), ((i : Int), ()))))))), ((((), ((), ((), ()))), ()), ()))) (false, ((l, (false, ())), ())) (true, ((l, (false, ())), ())) (risesI (l.map fun x => x.1) (n + 1)) l.length
    (fun j h3 r => by
      simp only [L_i_track_i_RootKey_valid_1, t_i_rootTrack_1]
      rw [ilt_nat h3, ix_nat h3, iadd_nat (by omega), opt_bind_some, cond_t, lastOf_succ]
      unfold risesI
      rw [map_getD (fun x : dRootKey => x.1) l j zRootKey 0 h3, ilt_ile n]
      cases ile (l.getD j zRootKey).1 (lastOf (l.map fun x => x.1) j)
      · cases ile (n + 1) (l.getD j zRootKey).1 <;> rfl
      · rfl)
    (fun r => by simp only [L_i_track_i_RootKey_valid_1, ilt_self, cond_f]) h
  have e := risesI_eq (l.map fun x => x.1) (n + 1) (by omega)
  rw [List.length_map] at e
  rw [e, show n + 1 - 1 = n by omega, show ((0 : Nat) : Int) = 0 from rfl, lastOf_zero] at this
  rw [this, List.length_map]
  cases rises (l.map fun x => x.1) 0 n
  · rfl
  · simp only [cond_t, opt_bind_some, cond_f]
    unfold t_s_l00In
    cases ile 1 (l.length : Int) <;> rfl
def trackOK (c : dClip) (j : Nat) : Bool := timesOK ((c.2.2.1.getD j []).map fun x => x.1) c.1
def clipHead (c : dClip) : Bool := bif t_s_l00In c.1 1 1000 then bif t_s_l00In c.2.1 0 2 then t_s_l00In (c.2.2.1.length : Int) 1 12 else false else false
def clipOK (c : dClip) : Bool := bif clipHead c then bif allFrom (trackOK c) 0 c.2.2.1.length then timesOK (c.2.2.2.1.map fun x => x.1) c.1 else false else false
theorem track_len {c : dClip} (h : z_Clip c ≤ 1048576) {j : Nat} (hj : j < c.2.2.1.length) : (c.2.2.1.getD j []).length ≤ 1048576 := by
  have h1 : szL z_Key (c.2.2.1.getD j []) ≤ szL z_KeyS c.2.2.1 := getD_ok (P := fun x => z_KeyS x ≤ szL z_KeyS c.2.2.1) (fun x hx => szL_mem hx) hj
  have h2 := szL_len (s := z_Key) (c.2.2.1.getD j [])
  unfold z_Clip at h
  omega
theorem roots_len {c : dClip} (h : z_Clip c ≤ 1048576) : c.2.2.2.1.length ≤ 1048576 := by
  have h2 := szL_len (s := z_RootKey) c.2.2.2.1
  unfold z_Clip at h
  omega
theorem clipHead_T {c : dClip} (h : clipHead c = true) : (1 ≤ c.1 ∧ c.1 ≤ 1000) ∧ (0 ≤ c.2.1 ∧ c.2.1 ≤ 2) ∧ 1 ≤ c.2.2.1.length ∧ c.2.2.1.length ≤ 12 := by
  unfold clipHead at h
  simp only [bif_T, l00In_T, reduceCtorEq, and_false, or_false] at h
  omega
theorem c_s_l05Is {c : dClip} (h : z_Clip c ≤ 1048576) : g_s_l05Is c = some (clipOK c) := by
  have e : clipHead c = bif !(t_s_l00In c.1 1 1000) then false else bif !(t_s_l00In c.2.1 0 2) then false else bif ilt (c.2.2.1.length : Int) 1 then false else bif ilt 12 (c.2.2.1.length : Int) then false else true := by
    unfold clipHead
    rw [Bool.eq_iff_iff]
    simp only [bif_T, bif_F, ilt_T, ilt_F, bnot_T, bnot_F, l00In_T, l00In_F, reduceCtorEq, and_true, and_false, or_false, false_or]
    try omega
  unfold g_s_l05Is clipOK
  rw [e]
  cases t_s_l00In c.1 1 1000
  · rfl
  cases t_s_l00In c.2.1 0 2
  · rfl
  cases ilt (c.2.2.1.length : Int) 1
  rotate_left
  · rfl
  cases h4 : ilt 12 (c.2.2.1.length : Int)
  rotate_left
  · rfl
  (simp only [ilt_T, ilt_F, ile_T, ile_F, ieq_T, ieq_F, bnot_T, bnot_F, ble_T, ble_F, nz_T, nz_F, nonneg_T, nonneg_F] at h4)
  simp only [bnot_t, cond_f, cond_t]
  have := all_loop (step := L_s_l05Is_1) (fun i => ((c, (false, ((c.2.2.1.length : Int), ((i : Int), ())))), ())) (false, ((c, (false, ())), ())) (true, ((c, (false, ())), ())) (trackOK c) c.2.2.1.length
    (fun j h3 r => by
      simp only [L_s_l05Is_1]
      have hl := track_len h h3
      rw [ilt_nat h3, ix_nat h3, iadd_nat (by omega), opt_bind_some, cond_t, c_s_l05At _ hl, opt_bind_some, c_s_l05Times _ _ (by rw [List.length_map]; omega), opt_bind_some, bif_not]
      rfl)
    (fun r => by simp only [L_s_l05Is_1, ilt_self, cond_f]) (by omega)
  rw [show ((0 : Nat) : Int) = 0 from rfl] at this
  rw [this]
  have hr := roots_len h
  cases allFrom (trackOK c) 0 c.2.2.1.length
  · rfl
  · simp only [cond_t, opt_bind_some, cond_f]
    rw [c_s_l05RootAt _ hr, opt_bind_some, c_s_l05Times _ _ (by rw [List.length_map]; omega)]; rfl
theorem c_i_ValidClip {c : dClip} (h : z_Clip c ≤ 1048576) : g_i_ValidClip c = some (clipOK c) := by
  have e : clipHead c = bif ilt c.1 1 then false else bif ilt 1000 c.1 then false else bif ilt c.2.1 0 then false else bif ilt 2 c.2.1 then false else bif ilt (c.2.2.1.length : Int) 1 then false else bif ilt 12 (c.2.2.1.length : Int) then false else true := by
    unfold clipHead
    rw [Bool.eq_iff_iff]
    simp only [bif_T, bif_F, ilt_T, ilt_F, bnot_T, bnot_F, l00In_T, l00In_F, reduceCtorEq, and_true, and_false, or_false, false_or]
    try omega
  unfold g_i_ValidClip clipOK
  rw [e]
  cases ilt c.1 1
  rotate_left
  · rfl
  cases h1 : ilt 1000 c.1
  rotate_left
  · rfl
  (simp only [ilt_T, ilt_F, ile_T, ile_F, ieq_T, ieq_F, bnot_T, bnot_F, ble_T, ble_F, nz_T, nz_F, nonneg_T, nonneg_F] at h1)
  cases ilt c.2.1 0
  rotate_left
  · rfl
  cases ilt 2 c.2.1
  rotate_left
  · rfl
  cases ilt (c.2.2.1.length : Int) 1
  rotate_left
  · rfl
  cases h4 : ilt 12 (c.2.2.1.length : Int)
  rotate_left
  · rfl
  (simp only [ilt_T, ilt_F, ile_T, ile_F, ieq_T, ieq_F, bnot_T, bnot_F, ble_T, ble_F, nz_T, nz_F, nonneg_T, nonneg_F] at h4)
  simp only [bnot_t, cond_f, cond_t]
  have := all_loop (step := L_i_ValidClip_1) (fun i => ((false, (c.2.2.1, ((c.2.2.1.length : Int), ((i : Int), ())))), ((c, ()), ()))) (false, ((false, ()), ((c, ()), ()))) (true, ((false, ()), ((c, ()), ()))) (trackOK c) c.2.2.1.length
    (fun j h3 r => by
      simp only [L_i_ValidClip_1]
      have hl := track_len h h3
      rw [ilt_nat h3, ix_nat h3, iadd_nat (by omega), opt_bind_some, cond_t, c_i_track_Key _ _ (by omega) (by omega), opt_bind_some, bif_not]
      rfl)
    (fun r => by simp only [L_i_ValidClip_1, ilt_self, cond_f]) (by omega)
  rw [show ((0 : Nat) : Int) = 0 from rfl] at this
  rw [this]
  have hr := roots_len h
  cases allFrom (trackOK c) 0 c.2.2.1.length
  · rfl
  · simp only [cond_t, opt_bind_some, cond_f]
    rw [c_i_track_RootKey _ _ (by omega) (by omega)]; rfl
def clipAt (cs : List dClip) (j : Nat) : Bool := bif clipOK (cs.getD j zClip) then ieq ((cs.getD j zClip).2.2.1.length : Int) ((cs.getD 0 zClip).2.2.1.length : Int) else false
def stateAt (m : dMachine) (j : Nat) : Bool := bif t_s_l00In (m.2.1.getD j zState).1 0 ((m.1.length : Int) - 1) then t_s_l00In (m.2.1.getD j zState).2.1 1 8 else false
def ruleOK (r : dRule) (n : Int) : Bool := bif t_s_l00In r.1 (-1) (n - 1) then bif t_s_l00In r.2.1 0 (n - 1) then bif ieq r.1 r.2.1 then false else bif t_s_l00In r.2.2.1 0 3 then bif t_s_l00In r.2.2.2.1 0 3 then t_s_l00In r.2.2.2.2.2.1 0 100 else false else false else false else false
def ruleAt (m : dMachine) (j : Nat) : Bool := ruleOK (m.2.2.1.getD j zRule) (m.2.1.length : Int)
def clipsOK (cs : List dClip) : Bool := bif t_s_l00In (cs.length : Int) 1 6 then allFrom (clipAt cs) 0 cs.length else false
def machOK (m : dMachine) : Bool := bif clipsOK m.1 then bif t_s_l00In (m.2.1.length : Int) 1 8 then bif ilt 16 (m.2.2.1.length : Int) then false else bif allFrom (stateAt m) 0 m.2.1.length then allFrom (ruleAt m) 0 m.2.2.1.length else false else false else false
theorem clip_sz {cs : List dClip} (h : szL z_Clip cs ≤ 1048576) {j : Nat} (hj : j < cs.length) : z_Clip (cs.getD j zClip) ≤ 1048576 :=
  Nat.le_trans (getD_ok (P := fun x => z_Clip x ≤ szL z_Clip cs) (fun x hx => szL_mem hx) hj) h
theorem s_clips_loop (m : dMachine) (a b : Int) (h : szL z_Clip m.1 ≤ 1048576) : iter L_s_l07Is_1 fuel ((m, (false, (a, (b, ((m.1.length : Int), (0, ())))))), ()) = some (bif allFrom (clipAt m.1) 0 m.1.length then (false, ((m, (false, (a, (b, ())))), ())) else (true, ((m, (false, (a, (b, ())))), ()))) := by
  have hl := szL_len (s := z_Clip) m.1
  exact all_loop (step := L_s_l07Is_1) (fun i => ((m, (false, (a, (b, ((m.1.length : Int), ((i : Int), ())))))), ())) (false, ((m, (false, (a, (b, ())))), ())) (true, ((m, (false, (a, (b, ())))), ())) (clipAt m.1) m.1.length
    (fun j h3 r => by
      simp only [L_s_l07Is_1]
      rw [ilt_nat h3, ix_nat h3, iadd_nat (by omega), ix_ok (i := 0) (n := m.1.length) (by omega) (by omega)]
      simp only [opt_bind_some, cond_t]
      rw [c_s_l05Is (clip_sz h h3), opt_bind_some, show (0 : Int).toNat = 0 from rfl]
      unfold clipAt
      cases clipOK (m.1.getD j zClip)
      · rfl
      · simp only [bnot_t, cond_f, cond_t, bif_not])
    (fun r => by simp only [L_s_l07Is_1, ilt_self, cond_f]) (by omega)
theorem s_states_loop (m : dMachine) (b : Int) (h : m.2.1.length ≤ 1048576) (h' : m.1.length ≤ 1048576) : iter L_s_l07Is_2 fuel ((m, (false, ((m.1.length : Int), (b, ((m.2.1.length : Int), (0, ())))))), ()) = some (bif allFrom (stateAt m) 0 m.2.1.length then (false, ((m, (false, (b, ()))), ())) else (true, ((m, (false, (b, ()))), ()))) := by
  exact all_loop (step := L_s_l07Is_2) (fun i => ((m, (false, ((m.1.length : Int), (b, ((m.2.1.length : Int), ((i : Int), ())))))), ())) (false, ((m, (false, (b, ()))), ())) (true, ((m, (false, (b, ()))), ())) (stateAt m) m.2.1.length
    (fun j h3 r => by
      simp only [L_s_l07Is_2]
      rw [ilt_nat h3, ix_nat h3, iadd_nat (by omega), isub_ok (by omega) (by omega)]
      simp only [opt_bind_some, cond_t]
      unfold stateAt
      cases t_s_l00In (m.2.1.getD j zState).1 0 ((m.1.length : Int) - 1)
      · rfl
      · simp only [bnot_t, cond_f, cond_t, bif_not])
    (fun r => by simp only [L_s_l07Is_2, ilt_self, cond_f]) (by omega)
theorem s_rules_loop (m : dMachine) (h : m.2.2.1.length ≤ 1048576) (h' : m.2.1.length ≤ 1048576) : iter L_s_l07Is_3 fuel ((m, (false, ((m.2.1.length : Int), ((m.2.2.1.length : Int), (0, ()))))), ()) = some (bif allFrom (ruleAt m) 0 m.2.2.1.length then (false, ((false, ()), ())) else (true, ((false, ()), ()))) := by
  exact all_loop (step := L_s_l07Is_3) (fun i => ((m, (false, ((m.2.1.length : Int), ((m.2.2.1.length : Int), ((i : Int), ()))))), ())) (false, ((false, ()), ())) (true, ((false, ()), ())) (ruleAt m) m.2.2.1.length
    (fun j h3 r => by
      simp only [L_s_l07Is_3]
      rw [ilt_nat h3, ix_nat h3, iadd_nat (by omega), isub_ok (by omega) (by omega)]
      simp only [opt_bind_some, cond_t]
      unfold ruleAt ruleOK
      cases t_s_l00In (m.2.2.1.getD j zRule).1 (-1) ((m.2.1.length : Int) - 1)
      · rfl
      cases t_s_l00In (m.2.2.1.getD j zRule).2.1 0 ((m.2.1.length : Int) - 1)
      · rfl
      cases ieq (m.2.2.1.getD j zRule).1 (m.2.2.1.getD j zRule).2.1
      rotate_left
      · rfl
      cases t_s_l00In (m.2.2.1.getD j zRule).2.2.1 0 3
      · rfl
      cases t_s_l00In (m.2.2.1.getD j zRule).2.2.2.1 0 3
      · rfl
      simp only [bnot_t, cond_f, cond_t, bif_not])
    (fun r => by simp only [L_s_l07Is_3, ilt_self, cond_f]) (by omega)
theorem mach_sz {m : dMachine} (h : z_Machine m ≤ 1048576) : szL z_Clip m.1 ≤ 1048576 ∧ m.1.length ≤ 1048576 ∧ m.2.1.length ≤ 1048576 ∧ m.2.2.1.length ≤ 1048576 := by
  have h1 := szL_len (s := z_Clip) m.1
  have h2 := szL_len (s := z_State) m.2.1
  have h3 := szL_len (s := z_Rule) m.2.2.1
  unfold z_Machine at h
  omega
theorem c_s_l07Is {m : dMachine} (h : z_Machine m ≤ 1048576) : g_s_l07Is m = some (machOK m) := by
  obtain ⟨h0, h1, h2, h3⟩ := mach_sz h
  unfold g_s_l07Is machOK clipsOK
  rw [s_clips_loop m _ _ h0]
  cases t_s_l00In (m.1.length : Int) 1 6
  · rfl
  cases t_s_l00In (m.2.1.length : Int) 1 8
  · cases allFrom (clipAt m.1) 0 m.1.length <;> rfl
  cases ilt 16 (m.2.2.1.length : Int)
  rotate_left
  · cases allFrom (clipAt m.1) 0 m.1.length <;> rfl
  cases allFrom (clipAt m.1) 0 m.1.length
  · rfl
  simp only [bnot_t, cond_f, cond_t, opt_bind_some]
  rw [s_states_loop m _ h2 h1]
  cases allFrom (stateAt m) 0 m.2.1.length
  · rfl
  simp only [bnot_t, cond_f, cond_t, opt_bind_some]
  rw [s_rules_loop m h3 h2]
  cases allFrom (ruleAt m) 0 m.2.2.1.length <;> rfl
theorem c_i_areClips_1 {cs : List dClip} (h : szL z_Clip cs ≤ 1048576) {j : Nat} (hj : j < cs.length) : g_i_areClips_1 (cs.getD j zClip) cs = some (!(clipAt cs j)) := by
  unfold g_i_areClips_1 clipAt
  rw [c_i_ValidClip (clip_sz h hj), opt_bind_some, ix_ok (i := 0) (by omega) (by omega)]
  cases clipOK (cs.getD j zClip) <;> rfl
theorem c_i_areClips {cs : List dClip} (h : szL z_Clip cs ≤ 1048576) : g_i_areClips cs = some (clipsOK cs) := by
  have hl := szL_len (s := z_Clip) cs
  unfold g_i_areClips clipsOK
  have e : t_s_l00In (cs.length : Int) 1 6 = bif ilt (cs.length : Int) 1 then false else bif ilt 6 (cs.length : Int) then false else true := by
    rw [Bool.eq_iff_iff]
    simp only [bif_T, bif_F, ilt_T, ilt_F, l00In_T, l00In_F, reduceCtorEq, and_true, and_false, or_false, false_or]
    try omega
  rw [e]
  cases ilt (cs.length : Int) 1
  rotate_left
  · rfl
  cases ilt 6 (cs.length : Int)
  rotate_left
  · rfl
  simp only [cond_f, cond_t]
  unfold g_slices_ContainsFunc_i_Clip_i_Clip g_slices_IndexFunc_i_Clip_i_Clip
  simp only [opt_bind_assoc, opt_bind_cond, opt_bind_some]
  have := contains_of (step := L_slices_IndexFunc_i_Clip_i_Clip_1) (fun i => ((cs, ((cs, ()), (0, ((cs.length : Int), ((i : Int), ()))))), ())) 0 (clipAt cs) cs.length
    (fun j h3 r => by
      simp only [L_slices_IndexFunc_i_Clip_i_Clip_1]
      rw [ilt_nat h3, ix_nat h3, iadd_nat (by omega), opt_bind_some, cond_t, c_i_areClips_1 h h3, opt_bind_some, bif_not])
    (fun r => by simp only [L_slices_IndexFunc_i_Clip_i_Clip_1, ilt_self, cond_f]) (by omega)
  rw [show ((0 : Nat) : Int) = 0 from rfl] at this
  have key : ∀ (x : Option (Bool × ((Int × Unit) × Unit))) (b : Bool), (Option.bind x fun y => bif y.1 then some (ile 0 y.2.1.1) else some (ile 0 (-1))) = some (!b) → (Option.bind x fun y => bif y.1 then some (!(ile 0 y.2.1.1)) else some (!(ile 0 (-1)))) = some b := by
    intro x b hx
    cases x with
    | none => cases hx
    | some y =>
      obtain ⟨c, ⟨i, u⟩, v⟩ := y
      simp only [opt_bind_some] at hx ⊢
      cases c <;> simp only [cond_t, cond_f, Option.some.injEq] at hx ⊢ <;> rw [hx] <;> cases b <;> rfl
  exact key _ _ this
theorem c_i_rule (r : dRule) (n : Int) : t_i_ValidMachine_1 r n = !(ruleOK r n) := by
  unfold t_i_ValidMachine_1 ruleOK
  rw [Bool.eq_iff_iff]
  simp only [bif_T, bif_F, ilt_T, ilt_F, ile_T, ile_F, ieq_T, ieq_F, bnot_T, bnot_F, l00In_T, l00In_F, reduceCtorEq, and_true, and_false, or_false, false_or, true_and, false_and]
  omega
theorem i_states_loop (m : dMachine) (h : m.2.1.length ≤ 1048576) (h' : m.1.length ≤ 1048576) : iter L_i_ValidMachine_1 fuel ((false, (m.2.1, ((m.2.1.length : Int), (0, ())))), ((m, ()), ())) = some (bif allFrom (stateAt m) 0 m.2.1.length then (false, ((false, ()), ((m, ()), ()))) else (true, ((false, ()), ((m, ()), ())))) := by
  exact all_loop (step := L_i_ValidMachine_1) (fun i => ((false, (m.2.1, ((m.2.1.length : Int), ((i : Int), ())))), ((m, ()), ()))) (false, ((false, ()), ((m, ()), ()))) (true, ((false, ()), ((m, ()), ()))) (stateAt m) m.2.1.length
    (fun j h3 r => by
      simp only [L_i_ValidMachine_1]
      rw [ilt_nat h3, ix_nat h3, iadd_nat (by omega)]
      simp only [opt_bind_some, cond_t]
      have e : stateAt m j = bif ilt (m.2.1.getD j zState).1 0 then false else bif ile (m.1.length : Int) (m.2.1.getD j zState).1 then false else bif ilt (m.2.1.getD j zState).2.1 1 then false else bif ilt 8 (m.2.1.getD j zState).2.1 then false else true := by
        unfold stateAt
        rw [Bool.eq_iff_iff]
        simp only [bif_T, bif_F, ilt_T, ilt_F, ile_T, ile_F, l00In_T, l00In_F, reduceCtorEq, and_true, and_false, or_false, false_or]
        omega
      rw [e]
      cases ilt (m.2.1.getD j zState).1 0
      · cases ile (m.1.length : Int) (m.2.1.getD j zState).1
        · cases ilt (m.2.1.getD j zState).2.1 1
          · cases ilt 8 (m.2.1.getD j zState).2.1 <;> rfl
          · rfl
        · rfl
      · rfl)
    (fun r => by simp only [L_i_ValidMachine_1, ilt_self, cond_f]) (by omega)
theorem c_i_ValidMachine {m : dMachine} (h : z_Machine m ≤ 1048576) : g_i_ValidMachine m = some (machOK m) := by
  obtain ⟨h0, h1, h2, h3⟩ := mach_sz h
  unfold g_i_ValidMachine machOK
  rw [c_i_areClips h0, opt_bind_some]
  cases clipsOK m.1
  · rfl
  have e : t_s_l00In (m.2.1.length : Int) 1 8 = bif ilt (m.2.1.length : Int) 1 then false else bif ilt 8 (m.2.1.length : Int) then false else true := by
    rw [Bool.eq_iff_iff]
    simp only [bif_T, bif_F, ilt_T, ilt_F, l00In_T, l00In_F, reduceCtorEq, and_true, and_false, or_false, false_or]
    try omega
  rw [e]
  cases ilt (m.2.1.length : Int) 1
  rotate_left
  · rfl
  cases ilt 8 (m.2.1.length : Int)
  rotate_left
  · rfl
  cases ilt 16 (m.2.2.1.length : Int)
  rotate_left
  · rfl
  simp only [bnot_t, cond_f, cond_t]
  rw [i_states_loop m h2 h1]
  cases allFrom (stateAt m) 0 m.2.1.length
  · rfl
  simp only [cond_f, cond_t, opt_bind_some]
  unfold g_slices_ContainsFunc_i_Rule_i_Rule g_slices_IndexFunc_i_Rule_i_Rule
  simp only [opt_bind_assoc, opt_bind_cond, opt_bind_some]
  have := contains_of (step := L_slices_IndexFunc_i_Rule_i_Rule_1) (fun i => ((m.2.2.1, (((m.2.1.length : Int), ()), (0, ((m.2.2.1.length : Int), ((i : Int), ()))))), ())) 0 (ruleAt m) m.2.2.1.length
    (fun j h3 r => by
      simp only [L_slices_IndexFunc_i_Rule_i_Rule_1]
      rw [ilt_nat h3, ix_nat h3, iadd_nat (by omega), opt_bind_some, cond_t, c_i_rule, bif_not]
      rfl)
    (fun r => by simp only [L_slices_IndexFunc_i_Rule_i_Rule_1, ilt_self, cond_f]) (by omega)
  rw [show ((0 : Nat) : Int) = 0 from rfl] at this
  have key : ∀ (x : Option (Bool × ((Int × Unit) × Unit))) (b : Bool), (Option.bind x fun y => bif y.1 then some (ile 0 y.2.1.1) else some (ile 0 (-1))) = some (!b) → (Option.bind x fun y => bif y.1 then some (!(ile 0 y.2.1.1)) else some (!(ile 0 (-1)))) = some b := by
    intro x b hx
    cases x with
    | none => cases hx
    | some y =>
      obtain ⟨c, ⟨i, u⟩, v⟩ := y
      simp only [opt_bind_some] at hx ⊢
      cases c <;> simp only [cond_t, cond_f, Option.some.injEq] at hx ⊢ <;> rw [hx] <;> cases b <;> rfl
  exact key _ _ this
theorem machOK_T {m : dMachine} (h : machOK m = true) : (1 ≤ m.1.length ∧ m.1.length ≤ 6) ∧ (1 ≤ m.2.1.length ∧ m.2.1.length ≤ 8) ∧ m.2.2.1.length ≤ 16 ∧ (∀ j, j < m.1.length → clipAt m.1 j = true) ∧ (∀ j, j < m.2.1.length → stateAt m j = true) ∧ ∀ j, j < m.2.2.1.length → ruleAt m j = true := by
  unfold machOK clipsOK at h
  simp only [bif_T, l00In_T, ilt_T, ilt_F, reduceCtorEq, and_false, or_false, false_or] at h
  obtain ⟨⟨h1, h2⟩, h3, h4, h5, h6⟩ := h
  exact ⟨by omega, by omega, by omega, fun j hj => allFrom_T h2 j (Nat.zero_le _) (by omega), fun j hj => allFrom_T h5 j (Nat.zero_le _) (by omega), fun j hj => allFrom_T h6 j (Nat.zero_le _) (by omega)⟩
theorem clipOK_T {c : dClip} (h : clipOK c = true) : clipHead c = true ∧ (∀ j, j < c.2.2.1.length → trackOK c j = true) ∧ timesOK (c.2.2.2.1.map fun x => x.1) c.1 = true := by
  unfold clipOK at h
  simp only [bif_T, reduceCtorEq, and_false, or_false] at h
  exact ⟨h.1, fun j hj => allFrom_T h.2.1 j (Nat.zero_le _) (by omega), h.2.2⟩
theorem clipAt_T {cs : List dClip} {j : Nat} (h : clipAt cs j = true) : clipOK (cs.getD j zClip) = true ∧ (cs.getD j zClip).2.2.1.length = (cs.getD 0 zClip).2.2.1.length := by
  unfold clipAt at h
  simp only [bif_T, ieq_T, reduceCtorEq, and_false, or_false] at h
  exact ⟨h.1, by omega⟩
/-- How long a state's clip is. -/
def lenOf (m : dMachine) (st : Nat) : Int := (m.1.getD (m.2.1.getD st zState).1.toNat zClip).1
def timeOK (m : dMachine) (st : Nat) (t : Int) : Bool := bif (m.2.1.getD st zState).2.2.1 then t_s_l00In t 0 (lenOf m st - 1) else t_s_l00In t 0 (lenOf m st)
theorem state_clip {m : dMachine} (h : machOK m = true) {j : Nat} (hj : j < m.2.1.length) : 0 ≤ (m.2.1.getD j zState).1 ∧ (m.2.1.getD j zState).1 < m.1.length := by
  obtain ⟨_, _, _, _, h5, _⟩ := machOK_T h
  have := h5 j hj
  unfold stateAt at this
  simp only [bif_T, l00In_T, reduceCtorEq, and_false, or_false] at this
  omega
theorem lenOf_le {m : dMachine} (h : machOK m = true) {j : Nat} (hj : j < m.2.1.length) : 1 ≤ lenOf m j ∧ lenOf m j ≤ 1000 := by
  obtain ⟨_, _, _, h4, _, _⟩ := machOK_T h
  have h1 := state_clip h hj
  have h2 := h4 (m.2.1.getD j zState).1.toNat (by omega)
  exact (clipHead_T (clipOK_T (clipAt_T h2).1).1).1
theorem c_s_l07Length {m : dMachine} (h : machOK m = true) {st : Int} (h0 : 0 ≤ st) (h1 : st < m.2.1.length) : g_s_l07Length m st = some (lenOf m st.toNat) := by
  have h2 := state_clip h (j := st.toNat) (by omega)
  unfold g_s_l07Length lenOf
  rw [ix_ok h0 h1, opt_bind_some, ix_ok h2.1 h2.2]; rfl
theorem se_Machine_length (m : dMachine) (st : Int) : g_i_Machine_length m st = g_s_l07Length m st := rfl
theorem c_s_l07Time {m : dMachine} (h : machOK m = true) {st : Int} (h0 : 0 ≤ st) (h1 : st < m.2.1.length) (t : Int) : g_s_l07Time m st t = some (timeOK m st.toNat t) := by
  have h2 := lenOf_le h (j := st.toNat) (by omega)
  unfold g_s_l07Time timeOK
  rw [c_s_l07Length h h0 h1, ix_ok h0 h1]
  simp only [opt_bind_some]
  rw [isub_ok (by omega) (by omega)]
  cases (m.2.1.getD st.toNat zState).2.2.1 <;> rfl
theorem c_i_isTime {m : dMachine} (h : machOK m = true) (st t : Int) : g_i_Machine_isTime m st t = some (bif t_s_l00In st 0 ((m.2.1.length : Int) - 1) then timeOK m st.toNat t else false) := by
  unfold g_i_Machine_isTime
  cases hb : t_s_l00In st 0 ((m.2.1.length : Int) - 1)
  · rw [l00In_F] at hb
    by_cases h1 : st < 0
    · rw [ilt_t h1]; rfl
    · rw [ilt_f (by omega), cond_f, ile_t (by omega)]; rfl
  rw [l00In_T] at hb
  rw [ilt_f hb.1, cond_f, ile_f (by omega), cond_f, cond_t, se_Machine_length, c_s_l07Length h hb.1 (by omega), ix_ok hb.1 (by omega)]
  simp only [opt_bind_some]
  unfold timeOK
  cases h1 : ilt t 0
  rotate_left
  · (simp only [ilt_T, ilt_F, ile_T, ile_F, ieq_T, ieq_F, bnot_T, bnot_F, ble_T, ble_F, nz_T, nz_F, nonneg_T, nonneg_F] at h1)
    rw [(l00In_F _ _ _).mpr (by omega), (l00In_F _ _ _).mpr (by omega), cond_same]; rfl
  (simp only [ilt_T, ilt_F, ile_T, ile_F, ieq_T, ieq_F, bnot_T, bnot_F, ble_T, ble_F, nz_T, nz_F, nonneg_T, nonneg_F] at h1)
  rw [cond_f]
  cases h2 : ilt t (lenOf m st.toNat)
  rotate_left
  · (simp only [ilt_T, ilt_F, ile_T, ile_F, ieq_T, ieq_F, bnot_T, bnot_F, ble_T, ble_F, nz_T, nz_F, nonneg_T, nonneg_F] at h2)
    rw [(l00In_T _ _ _).mpr (by omega), (l00In_T _ _ _).mpr (by omega), cond_same]; rfl
  (simp only [ilt_T, ilt_F, ile_T, ile_F, ieq_T, ieq_F, bnot_T, bnot_F, ble_T, ble_F, nz_T, nz_F, nonneg_T, nonneg_F] at h2)
  rw [cond_f, (l00In_F t 0 (lenOf m st.toNat - 1)).mpr (by omega)]
  by_cases h3 : t = lenOf m st.toNat
  · rw [ieq_t h3, cond_t, (l00In_T _ _ _).mpr (by omega)]
    cases (m.2.1.getD st.toNat zState).2.2.1 <;> rfl
  · rw [ieq_f h3, cond_f, (l00In_F _ _ _).mpr (by omega), cond_same]
def runOK (m : dMachine) (r : dRun) : Bool :=
  bif t_s_l00In r.1 0 ((m.2.1.length : Int) - 1) then bif timeOK m r.1.toNat r.2.1 then
    bif ieq r.2.2.1 (-1) then bif ieq r.2.2.2.1 0 then bif ieq r.2.2.2.2.1 0 then ieq r.2.2.2.2.2.1 0 else false else false
    else bif t_s_l00In r.2.2.1 0 ((m.2.1.length : Int) - 1) then bif timeOK m r.2.2.1.toNat r.2.2.2.1 then bif t_s_l00In r.2.2.2.2.1 1 100 then t_s_l00In r.2.2.2.2.2.1 0 (r.2.2.2.2.1 - 1) else false else false else false
  else false else false
theorem c_s_l07Run {m : dMachine} (h : machOK m = true) (r : dRun) : g_s_l07Run m r = some (runOK m r) := by
  have hm := machOK_T h
  unfold g_s_l07Run runOK
  rw [isub_ok (b := 1) (by omega) (by omega)]
  cases hb : t_s_l00In r.1 0 ((m.2.1.length : Int) - 1)
  · rfl
  rw [l00In_T] at hb
  rw [c_s_l07Time h hb.1 (by omega)]
  simp only [bnot_t, cond_f, cond_t, opt_bind_some]
  cases timeOK m r.1.toNat r.2.1
  · rfl
  simp only [bnot_t, cond_f, cond_t]
  cases ieq r.2.2.1 (-1)
  · cases hc : t_s_l00In r.2.2.1 0 ((m.2.1.length : Int) - 1)
    · rfl
    rw [l00In_T] at hc
    rw [c_s_l07Time h hc.1 (by omega)]
    simp only [cond_f, cond_t, opt_bind_some]
    cases timeOK m r.2.2.1.toNat r.2.2.2.1
    · rfl
    cases hd : t_s_l00In r.2.2.2.2.1 1 100
    · rfl
    rw [l00In_T] at hd
    rw [isub_ok (by omega) (by omega)]; rfl
  · cases ieq r.2.2.2.1 0 <;> cases ieq r.2.2.2.2.1 0 <;> rfl
theorem c_i_IsRun {m : dMachine} (hz : z_Machine m ≤ 1048576) (r : dRun) : g_i_IsRun m r = some (bif machOK m then runOK m r else false) := by
  unfold g_i_IsRun
  rw [c_i_ValidMachine hz, opt_bind_some]
  cases h : machOK m
  · rfl
  have hm := machOK_T h
  unfold runOK
  rw [c_i_isTime h, c_i_isTime h]
  simp only [bnot_t, cond_f, cond_t, opt_bind_some]
  cases hb : t_s_l00In r.1 0 ((m.2.1.length : Int) - 1)
  · rfl
  simp only [cond_t]
  cases timeOK m r.1.toNat r.2.1
  · rfl
  simp only [bnot_t, cond_f, cond_t]
  cases ieq r.2.2.1 (-1)
  · cases hc : t_s_l00In r.2.2.1 0 ((m.2.1.length : Int) - 1)
    · rfl
    simp only [cond_f, cond_t]
    cases timeOK m r.2.2.1.toNat r.2.2.2.1
    · rfl
    have e1 : t_s_l00In r.2.2.2.2.1 1 100 = bif ile 1 r.2.2.2.2.1 then ile r.2.2.2.2.1 100 else false := rfl
    have e2 : t_s_l00In r.2.2.2.2.2.1 0 (r.2.2.2.2.1 - 1) = bif ile 0 r.2.2.2.2.2.1 then ilt r.2.2.2.2.2.1 r.2.2.2.2.1 else false := by
      rw [Bool.eq_iff_iff]
      simp only [bif_T, bif_F, ilt_T, ilt_F, ile_T, ile_F, l00In_T, l00In_F, reduceCtorEq, and_true, and_false, or_false, false_or]
      omega
    rw [e1, e2]
    cases ile 1 r.2.2.2.2.1 <;> cases ile r.2.2.2.2.1 100 <;> cases ile 0 r.2.2.2.2.2.1 <;> rfl
  · cases ieq r.2.2.2.1 0 <;> cases ieq r.2.2.2.2.1 0 <;> rfl
end Go.Fw
