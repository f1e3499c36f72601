/- The reference's functions and the program's compute the same: clips and machines. No condition. -/
import Derived.Test.YtobcfldhacdpiaaGreatBEq2
import Derived.Test.YtobcfldhacdpiaaGreatCThy
set_option linter.unusedVariables false
set_option linter.unusedSimpArgs false
namespace Go.Fw

/-! tracks -/
def timesOK (l : List Int) (n : Int) : Bool := bif rises l 0 n then t_s_l00In (l.length : Int) 1 12 else false

theorem c_s_l05Times (l : List Int) (n : Int) (h : l.length < 4611686018427387904) : g_s_l05Times l n = some (timesOK l n) := by
  unfold g_s_l05Times timesOK rises
  have := all_loop (step := L_s_l05Times_1) (fun i => ((l, (n, (false, ((l.length : Int), ((i : Int), ()))))), ())) (false, ((l, (false, ())), ())) (true, ((l, (false, ())), ())) (risesAt l 0 n) l.length
    (fun j h3 r => by
      simp only [L_s_l05Times_1]
      rw [ilt_nat h3, ix_nat h3, iadd_nat (by omega), opt_bind_some, cond_t]
      unfold risesAt
      cases t_s_l00In (l.getD j 0) 0 n
      · rfl
      by_cases h0 : 0 < j
      · rw [ilt_t (by omega), isub_ok (by omega) (by omega), ix_ok (by omega) (by omega), show ((j : Int) - 1).toNat = j - 1 by omega]
        simp only [opt_bind_some, bnot_t, cond_f, cond_t, bif_not]
      · rw [ilt_f (by omega)]; rfl)
    (fun r => by simp only [L_s_l05Times_1, ilt_self, cond_f]) h
  rw [show ((0 : Nat) : Int) = 0 from rfl] at this
  rw [this]
  cases allFrom (risesAt l 0 n) 0 l.length
  · rfl
  · simp only [cond_t, opt_bind_some, cond_f]
    unfold t_s_l00In
    cases ile 1 (l.length : Int) <;> rfl

theorem c_s_l05At (l : List dKey) (h : l.length ≤ 1048576) : g_s_l05At l = some (l.map fun x => x.1) := by
  unfold g_s_l05At
  have := map_loop (step := L_s_l05At_1) (fun i acc => ((l, ((l.length : Int), ((i : Int), ()))), (acc, ()))) (fun acc => ((), (acc, ()))) (fun x : dKey => x.1) l
    (fun pre x suf r acc he ha => by
      have hp : pre.length < l.length := by rw [he]; simp
      simp only [L_s_l05At_1]
      rw [ilt_nat hp, ix_nat hp, iadd_nat (by omega), ble_t (by omega)]
      simp only [opt_bind_some, cond_t]
      rw [show l.getD pre.length zKey = x by rw [he]; exact getD_mid ..])
    (fun r acc => by simp only [L_s_l05At_1, ilt_self, cond_f]) (by omega)
  rw [show ((0 : Nat) : Int) = 0 from rfl] at this
  rw [this]; rfl
theorem c_s_l05RootAt (l : List dRootKey) (h : l.length ≤ 1048576) : g_s_l05RootAt l = some (l.map fun x => x.1) := by
  unfold g_s_l05RootAt
  have := map_loop (step := L_s_l05RootAt_1) (fun i acc => ((l, ((l.length : Int), ((i : Int), ()))), (acc, ()))) (fun acc => ((), (acc, ()))) (fun x : dRootKey => x.1) l
    (fun pre x suf r acc he ha => by
      have hp : pre.length < l.length := by rw [he]; simp
      simp only [L_s_l05RootAt_1]
      rw [ilt_nat hp, ix_nat hp, iadd_nat (by omega), ble_t (by omega)]
      simp only [opt_bind_some, cond_t]
      rw [show l.getD pre.length zRootKey = x by rw [he]; exact getD_mid ..])
    (fun r acc => by simp only [L_s_l05RootAt_1, ilt_self, cond_f]) (by omega)
  rw [show ((0 : Nat) : Int) = 0 from rfl] at this
  rw [this]; rfl

theorem ilt_ile (a b : Int) : ilt a b = ile (a + 1) b := by ((rw [Bool.eq_iff_iff]; simp only [bif_T, bif_F, ilt_T, ilt_F, ile_T, ile_F, ieq_T, ieq_F, bnot_T, bnot_F, reduceCtorEq, and_true, and_false, or_false, false_or, true_and, false_and]; omega))

theorem c_i_track_Key (l : List dKey) (n : Int) (h : l.length < 4611686018427387904) (hn : n < 4611686018427387903) : g_i_track_i_Key_valid ((), ((), ((), ()))) l n = some (timesOK (l.map fun x => x.1) n) := by
  unfold g_i_track_i_Key_valid timesOK
  have := all_loop (step := L_i_track_i_Key_valid_1) (fun i => ((l, (n, (false, (lastOf (l.map fun x => x.1) i, (l, ((l.length : Int), ((i : Int), ()))))))), ((((), ((), ((), ()))), ()), ()))) (false, ((l, (false, ())), ())) (true, ((l, (false, ())), ())) (risesI (l.map fun x => x.1) (n + 1)) l.length
    (fun j h3 r => by
      simp only [L_i_track_i_Key_valid_1, t_i_turnTrack_1]
      rw [ilt_nat h3, ix_nat h3, iadd_nat (by omega), opt_bind_some, cond_t, lastOf_succ]
      unfold risesI
      rw [map_getD (fun x : dKey => x.1) l j zKey 0 h3, ilt_ile n]
      cases ile (l.getD j zKey).1 (lastOf (l.map fun x => x.1) j)
      · cases ile (n + 1) (l.getD j zKey).1 <;> rfl
      · rfl)
    (fun r => by simp only [L_i_track_i_Key_valid_1, ilt_self, cond_f]) h
  have e := risesI_eq (l.map fun x => x.1) (n + 1) (by omega)
  rw [List.length_map] at e
  rw [e, show n + 1 - 1 = n by omega, show ((0 : Nat) : Int) = 0 from rfl, lastOf_zero] at this
  rw [this, List.length_map]
  cases rises (l.map fun x => x.1) 0 n
  · rfl
  · simp only [cond_t, opt_bind_some, cond_f]
    unfold t_s_l00In
    cases ile 1 (l.length : Int) <;> rfl
theorem c_i_track_RootKey (l : List dRootKey) (n : Int) (h : l.length < 4611686018427387904) (hn : n < 4611686018427387903) : g_i_track_i_RootKey_valid ((), ((), ((), ()))) l n = some (timesOK (l.map fun x => x.1) n) := by
  unfold g_i_track_i_RootKey_valid timesOK
  have := all_loop (step := L_i_track_i_RootKey_valid_1) (fun i => ((l, (n, (false, (lastOf (l.map fun x => x.1) i, (l, ((l.length : Int), ((i : Int), ()))))))), ((((), ((), ((), ()))), ()), ()))) (false, ((l, (false, ())), ())) (true, ((l, (false, ())), ())) (risesI (l.map fun x => x.1) (n + 1)) l.length
    (fun j h3 r => by
      simp only [L_i_track_i_RootKey_valid_1, t_i_rootTrack_1]
      rw [ilt_nat h3, ix_nat h3, iadd_nat (by omega), opt_bind_some, cond_t, lastOf_succ]
      unfold risesI
      rw [map_getD (fun x : dRootKey => x.1) l j zRootKey 0 h3, ilt_ile n]
      cases ile (l.getD j zRootKey).1 (lastOf (l.map fun x => x.1) j)
      · cases ile (n + 1) (l.getD j zRootKey).1 <;> rfl
      · rfl)
    (fun r => by simp only [L_i_track_i_RootKey_valid_1, ilt_self, cond_f]) h
  have e := risesI_eq (l.map fun x => x.1) (n + 1) (by omega)
  rw [List.length_map] at e
  rw [e, show n + 1 - 1 = n by omega, show ((0 : Nat) : Int) = 0 from rfl, lastOf_zero] at this
  rw [this, List.length_map]
  cases rises (l.map fun x => x.1) 0 n
  · rfl
  · simp only [cond_t, opt_bind_some, cond_f]
    unfold t_s_l00In
    cases ile 1 (l.length : Int) <;> rfl

/-! clips -/
def trackOK (c : dClip) (j : Nat) : Bool := timesOK ((c.2.2.1.getD j []).map fun x => x.1) c.1
def clipHead (c : dClip) : Bool := bif t_s_l00In c.1 1 1000 then bif t_s_l00In c.2.1 0 2 then t_s_l00In (c.2.2.1.length : Int) 1 12 else false else false
def clipOK (c : dClip) : Bool := bif clipHead c then bif allFrom (trackOK c) 0 c.2.2.1.length then timesOK (c.2.2.2.1.map fun x => x.1) c.1 else false else false

theorem track_len {c : dClip} (h : z_Clip c ≤ 1048576) {j : Nat} (hj : j < c.2.2.1.length) : (c.2.2.1.getD j []).length ≤ 1048576 := by
  have h1 : szL z_Key (c.2.2.1.getD j []) ≤ szL z_KeyS c.2.2.1 := getD_ok (P := fun x => z_KeyS x ≤ szL z_KeyS c.2.2.1) (fun x hx => szL_mem hx) hj
  have h2 := szL_len (s := z_Key) (c.2.2.1.getD j [])
  unfold z_Clip at h
  omega
theorem roots_len {c : dClip} (h : z_Clip c ≤ 1048576) : c.2.2.2.1.length ≤ 1048576 := by
  have h2 := szL_len (s := z_RootKey) c.2.2.2.1
  unfold z_Clip at h
  omega

theorem clipHead_T {c : dClip} (h : clipHead c = true) : (1 ≤ c.1 ∧ c.1 ≤ 1000) ∧ (0 ≤ c.2.1 ∧ c.2.1 ≤ 2) ∧ 1 ≤ c.2.2.1.length ∧ c.2.2.1.length ≤ 12 := by
  unfold clipHead at h
  simp only [bif_T, l00In_T, reduceCtorEq, and_false, or_false] at h
  omega

theorem c_s_l05Is {c : dClip} (h : z_Clip c ≤ 1048576) : g_s_l05Is c = some (clipOK c) := by
  have e : clipHead c = bif !(t_s_l00In c.1 1 1000) then false else bif !(t_s_l00In c.2.1 0 2) then false else bif ilt (c.2.2.1.length : Int) 1 then false else bif ilt 12 (c.2.2.1.length : Int) then false else true := by
    unfold clipHead
    rw [Bool.eq_iff_iff]
    simp only [bif_T, bif_F, ilt_T, ilt_F, bnot_T, bnot_F, l00In_T, l00In_F, reduceCtorEq, and_true, and_false, or_false, false_or]
    try omega
  unfold g_s_l05Is clipOK
  rw [e]
  cases t_s_l00In c.1 1 1000
  · rfl
  cases t_s_l00In c.2.1 0 2
  · rfl
  cases ilt (c.2.2.1.length : Int) 1
  rotate_left
  · rfl
  cases h4 : ilt 12 (c.2.2.1.length : Int)
  rotate_left
  · rfl
  (simp only [ilt_T, ilt_F, ile_T, ile_F, ieq_T, ieq_F, bnot_T, bnot_F, ble_T, ble_F, nz_T, nz_F, nonneg_T, nonneg_F] at h4)
  simp only [bnot_t, cond_f, cond_t]
  have := all_loop (step := L_s_l05Is_1) (fun i => ((c, (false, ((c.2.2.1.length : Int), ((i : Int), ())))), ())) (false, ((c, (false, ())), ())) (true, ((c, (false, ())), ())) (trackOK c) c.2.2.1.length
    (fun j h3 r => by
      simp only [L_s_l05Is_1]
      have hl := track_len h h3
      rw [ilt_nat h3, ix_nat h3, iadd_nat (by omega), opt_bind_some, cond_t, c_s_l05At _ hl, opt_bind_some, c_s_l05Times _ _ (by rw [List.length_map]; omega), opt_bind_some, bif_not]
      rfl)
    (fun r => by simp only [L_s_l05Is_1, ilt_self, cond_f]) (by omega)
  rw [show ((0 : Nat) : Int) = 0 from rfl] at this
  rw [this]
  have hr := roots_len h
  cases allFrom (trackOK c) 0 c.2.2.1.length
  · rfl
  · simp only [cond_t, opt_bind_some, cond_f]
    rw [c_s_l05RootAt _ hr, opt_bind_some, c_s_l05Times _ _ (by rw [List.length_map]; omega)]; rfl

theorem c_i_ValidClip {c : dClip} (h : z_Clip c ≤ 1048576) : g_i_ValidClip c = some (clipOK c) := by
  have e : clipHead c = bif ilt c.1 1 then false else bif ilt 1000 c.1 then false else bif ilt c.2.1 0 then false else bif ilt 2 c.2.1 then false else bif ilt (c.2.2.1.length : Int) 1 then false else bif ilt 12 (c.2.2.1.length : Int) then false else true := by
    unfold clipHead
    rw [Bool.eq_iff_iff]
    simp only [bif_T, bif_F, ilt_T, ilt_F, bnot_T, bnot_F, l00In_T, l00In_F, reduceCtorEq, and_true, and_false, or_false, false_or]
    try omega
  unfold g_i_ValidClip clipOK
  rw [e]
  cases ilt c.1 1
  rotate_left
  · rfl
  cases h1 : ilt 1000 c.1
  rotate_left
  · rfl
  (simp only [ilt_T, ilt_F, ile_T, ile_F, ieq_T, ieq_F, bnot_T, bnot_F, ble_T, ble_F, nz_T, nz_F, nonneg_T, nonneg_F] at h1)
  cases ilt c.2.1 0
  rotate_left
  · rfl
  cases ilt 2 c.2.1
  rotate_left
  · rfl
  cases ilt (c.2.2.1.length : Int) 1
  rotate_left
  · rfl
  cases h4 : ilt 12 (c.2.2.1.length : Int)
  rotate_left
  · rfl
  (simp only [ilt_T, ilt_F, ile_T, ile_F, ieq_T, ieq_F, bnot_T, bnot_F, ble_T, ble_F, nz_T, nz_F, nonneg_T, nonneg_F] at h4)
  simp only [bnot_t, cond_f, cond_t]
  have := all_loop (step := L_i_ValidClip_1) (fun i => ((false, (c.2.2.1, ((c.2.2.1.length : Int), ((i : Int), ())))), ((c, ()), ()))) (false, ((false, ()), ((c, ()), ()))) (true, ((false, ()), ((c, ()), ()))) (trackOK c) c.2.2.1.length
    (fun j h3 r => by
      simp only [L_i_ValidClip_1]
      have hl := track_len h h3
      rw [ilt_nat h3, ix_nat h3, iadd_nat (by omega), opt_bind_some, cond_t, c_i_track_Key _ _ (by omega) (by omega), opt_bind_some, bif_not]
      rfl)
    (fun r => by simp only [L_i_ValidClip_1, ilt_self, cond_f]) (by omega)
  rw [show ((0 : Nat) : Int) = 0 from rfl] at this
  rw [this]
  have hr := roots_len h
  cases allFrom (trackOK c) 0 c.2.2.1.length
  · rfl
  · simp only [cond_t, opt_bind_some, cond_f]
    rw [c_i_track_RootKey _ _ (by omega) (by omega)]; rfl
end Go.Fw
