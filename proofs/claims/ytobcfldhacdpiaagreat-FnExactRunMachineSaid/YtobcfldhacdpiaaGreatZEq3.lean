/- The reference's functions and the program's compute the same: poses of runs. No condition. -/
import Derived.Test.YtobcfldhacdpiaaGreatZEq2
set_option linter.unusedVariables false
set_option linter.unusedSimpArgs false
namespace Go.Fw

theorem range_map_getD {α β : Type} (f : α → β) (l : List α) (z : α) : (List.range l.length).map (fun j => f (l.getD j z)) = l.map f := by
  apply List.ext_getElem?
  intro j
  by_cases hj : j < l.length
  · rw [List.getElem?_map, List.getElem?_range hj, List.getElem?_map, List.getElem?_eq_getElem hj, Option.map_some, Option.map_some, List.getD_eq_getElem?_getD, List.getElem?_eq_getElem hj]; rfl
  · rw [List.getElem?_eq_none (by simp; omega), List.getElem?_eq_none (by simp; omega)]

/-! the pose of a clip -/
def rootAtV (l : List dRootKey) (a kind : Int) : dVec := (g_s_l05Root l a kind).getD zVec
def turnAtV (l : List dKey) (a kind : Int) : dTurn := (g_s_l05Turn l a kind).getD zTurn
theorem c_rootV {l : List dRootKey} {n : Int} (h : timesOK (l.map fun x => x.1) n = true) (a kind : Int) : g_s_l05Root l a kind = some (rootAtV l a kind) ∧ g_i_track_i_RootKey_sample ((), ((), ((), ()))) l kind a = some (a, (rootAtV l a kind, ())) := by
  obtain ⟨v, h1, h2⟩ := e_root l h a kind
  unfold rootAtV
  rw [h1, h2]
  exact ⟨rfl, rfl⟩
theorem c_turnV {l : List dKey} {n : Int} (h : timesOK (l.map fun x => x.1) n = true) (a kind : Int) : g_s_l05Turn l a kind = some (turnAtV l a kind) ∧ g_i_track_i_Key_sample ((), ((), ((), ()))) l kind a = some (a, (turnAtV l a kind, ())) := by
  obtain ⟨v, h1, h2⟩ := e_turn l h a kind
  unfold turnAtV
  rw [h1, h2]
  exact ⟨rfl, rfl⟩

def poseAt (c : dClip) (a : Int) : dPose := (rootAtV c.2.2.2.1 a c.2.1, (c.2.2.1.map fun l => turnAtV l a c.2.1, ()))
theorem poseAt_len (c : dClip) (a : Int) : (poseAt c a).2.1.length = c.2.2.1.length := by simp [poseAt]

theorem c_s_l05Pose {c : dClip} (h : clipOK c = true) (a : Int) : g_s_l05Pose c a = some (poseAt c a) := by
  obtain ⟨h1, h2, h3⟩ := clipOK_T h
  obtain ⟨_, _, _, h4⟩ := clipHead_T h1
  unfold g_s_l05Pose
  rw [(c_rootV h3 a c.2.1).1, opt_bind_some]
  have := map_loop (step := L_s_l05Pose_1) (fun i acc => ((c, (a, ((c.2.2.1.length : Int), ((i : Int), ())))), (((0, (0, (0, ()))), ()), (acc, ((rootAtV c.2.2.2.1 a c.2.1, ()), ()))))) (fun acc => ((), (((0, (0, (0, ()))), ()), (acc, ((rootAtV c.2.2.2.1 a c.2.1, ()), ()))))) (fun l => turnAtV l a c.2.1) c.2.2.1
    (fun pre x suf r acc he ha => by
      have hpl : pre.length < c.2.2.1.length := by rw [he]; simp
      have hx : c.2.2.1.getD pre.length [] = x := by rw [he]; exact getD_mid ..
      have ht := h2 pre.length hpl
      unfold trackOK at ht
      rw [hx] at ht
      simp only [L_s_l05Pose_1]
      rw [ilt_nat hpl, ix_nat hpl, iadd_nat (by omega), ble_t (by omega)]
      simp only [opt_bind_some, cond_t, hx]
      rw [(c_turnV ht a c.2.1).1, opt_bind_some])
    (fun r acc => by simp only [L_s_l05Pose_1, ilt_self, cond_f]) (by omega)
  rw [show ((0 : Nat) : Int) = 0 from rfl] at this
  rw [this]
  rfl

theorem c_i_sample {c : dClip} (h : clipOK c = true) (a : Int) : g_i_Clip_sample c a = some (poseAt c a) := by
  obtain ⟨h1, h2, h3⟩ := clipOK_T h
  obtain ⟨_, _, _, h4⟩ := clipHead_T h1
  unfold g_i_Clip_sample g_i_Clip_root
  rw [(c_rootV h3 a c.2.1).2]
  simp only [opt_bind_some]
  rw [mkOk_t (by omega) (Int.le_refl _) (by omega), cond_t]
  have := fill_loop (step := L_i_Clip_sample_1) (fun i acc => ((c, (a, (c.2.2.1, ((c.2.2.1.length : Int), ((i : Int), ()))))), (((0, (0, (0, ()))), ()), (acc, ((rootAtV c.2.2.2.1 a c.2.1, ()), ()))))) (fun acc => ((), (((0, (0, (0, ()))), ()), (acc, ((rootAtV c.2.2.2.1 a c.2.1, ()), ()))))) (fun j => turnAtV (c.2.2.1.getD j []) a c.2.1) c.2.2.1.length
    (fun r i acc hi ha => by
      have ht := h2 i hi
      unfold trackOK at ht
      simp only [L_i_Clip_sample_1]
      rw [ilt_nat hi, ix_nat hi, iadd_nat (by omega), ix_nat (show i < acc.length by omega)]
      simp only [opt_bind_some, cond_t]
      rw [(c_turnV ht a c.2.1).2, opt_bind_some])
    (fun r acc ha => by simp only [L_i_Clip_sample_1, ilt_self, cond_f]) (by omega) (List.replicate c.2.2.1.length (0, (0, (0, (0, ()))))) (by simp)
  rw [show ((0 : Nat) : Int) = 0 from rfl] at this
  rw [this, range_map_getD (fun l => turnAtV l a c.2.1)]
  rfl

/-! blends -/
def nearL (p q : List dTurn) (sh : Nat) (n : Nat) : List dTurn := (List.range n).map fun j => nearOf (p.getD j zTurn) (q.getD j zTurn) sh
def blendV (p q : dPose) (sh : Nat) : dPose := (t_s_l01Between p.1 q.1 sh, (nearL p.2.1 q.2.1 sh p.2.1.length, ()))
theorem blendV_len (p q : dPose) (sh : Nat) : (blendV p q sh).2.1.length = p.2.1.length := by simp [blendV, nearL]

theorem repl_getD (n j : Nat) (h : j < n) : (List.replicate n true).getD j false = true := by
  rw [List.getD_eq_getElem?_getD, List.getElem?_replicate, if_pos h]; rfl

theorem c_s_l03Blend {p q : dPose} (sh : Nat) (h1 : 1 ≤ p.2.1.length) (h2 : p.2.1.length ≤ 12) (hq : q.2.1.length = p.2.1.length) : g_s_l03Blend p q sh (List.replicate p.2.1.length true) = some (blendV p q sh) := by
  unfold g_s_l03Blend
  have key : ∀ (b2 : dVec) (m i N : Nat), i + m = p.2.1.length → m < N → iter L_s_l03Blend_1 N ((p, (q, (sh, (List.replicate p.2.1.length true, ((p.2.1.length : Int), ((i : Int), ())))))), (((0, (0, (0, ()))), ()), (nearL p.2.1 q.2.1 sh i, ((b2, ()), ())))) = some ((), (((0, (0, (0, ()))), ()), (nearL p.2.1 q.2.1 sh p.2.1.length, ((b2, ()), ())))) := by
    intro b2 m
    induction m with
    | zero =>
      intro i N h3 h4
      obtain _ | N := N
      · omega
      rw [iter_succ, show i = p.2.1.length by omega]
      simp only [L_s_l03Blend_1, ilt_self, cond_f]
    | succ m ih =>
      intro i N h3 h4
      obtain _ | N := N
      · omega
      have hi : i < p.2.1.length := by omega
      have ih' := ih (i + 1) N (by omega) (by omega)
      have e : nearL p.2.1 q.2.1 sh (i + 1) = nearL p.2.1 q.2.1 sh i ++ [nearOf (p.2.1.getD i zTurn) (q.2.1.getD i zTurn) sh] := range_map_succ _ _
      rw [e] at ih'
      have hL : (nearL p.2.1 q.2.1 sh i).length = i := by simp [nearL]
      rw [iter_succ]
      simp only [L_s_l03Blend_1, List.length_replicate, hL]
      simp only [ilt_nat hi, ix_nat hi, ix_nat (show i < q.2.1.length by omega), iadd_nat (show i < 4611686018427387904 by omega), repl_getD _ _ hi, c_near, ble_t (show i + 1 ≤ 4294967296 by omega), opt_bind_some, cond_t]
      exact ih'
  rw [List.length_replicate, ix_ok (Int.le_refl 0) (by omega), opt_bind_some, show (0 : Int).toNat = 0 from rfl, repl_getD _ _ (by omega), cond_t]
  have := key (t_s_l01Between p.1 q.1 sh) p.2.1.length 0 fuel (by omega) (by unfold fuel; omega)
  rw [show ((0 : Nat) : Int) = 0 from rfl, show nearL p.2.1 q.2.1 sh 0 = [] from rfl] at this
  rw [this]
  rfl

theorem c_CloneT (l : List dTurn) (h : l.length ≤ 4294967296) : g_slices_Clone_i_Turn_i_Turn l = some l := by
  unfold g_slices_Clone_i_Turn_i_Turn
  rw [ble_t (by omega), List.nil_append]
  simp only [cond_t]
  cases l with
  | nil => exact bothSame_self _
  | cons x r => rfl

theorem c_Repeat_bool (v : Bool) {n : Nat} (h1 : 1 ≤ n) (h2 : n < 64) : g_slices_Repeat_bool_bool [v] (n : Int) = some (List.replicate n v) := by
  have e := mul_small ⟨n, h2⟩
  unfold g_slices_Repeat_bool_bool
  simp only [List.length_cons, List.length_nil, Nat.zero_add, List.length_replicate]
  rw [show (((1 : Nat) : Int)) = 1 from rfl]
  simp only at e
  rw [e]
  dsimp only
  rw [iconv_ok (by omega) (by omega), ilt_f (by omega), cond_f, ilt_self, cond_f, ilt_f (by omega), cond_f, mkOk_t (by omega) (Int.le_refl _) (by omega), cond_t, nat_int_toNat]
  have et : List.take n [v] = [v] := List.take_of_length_le (by simpa using h1)
  simp only [et, List.length_cons, List.length_nil, Nat.zero_add, List.length_replicate]
  have hp : (putL (List.replicate n false) 0 [v]).length = n := by
    unfold putL
    simp only [List.length_append, List.length_take, List.length_drop, List.length_replicate, List.length_cons, List.length_nil]
    omega
  have := repeat_loop (step := L_slices_Repeat_bool_bool_1) v n (by omega)
    (fun r k l hk hl => by
      simp only [L_slices_Repeat_bool_bool_1, nat_int_toNat]
      rw [ilt_nat hk, decide_eq_true (show (0 : Int) ≤ (k : Int) by omega), decide_eq_true (show (k : Int) ≤ (l.length : Int) by omega), iadd_ok (by simp only [List.length_take]; omega) (by simp only [List.length_take]; omega)]
      simp only [Bool.and_self, cond_t]
      rw [Int.natCast_add])
    (fun r l => by simp only [L_slices_Repeat_bool_bool_1, ilt_self, cond_f]) n 1 fuel (putL (List.replicate n false) 0 [v]) (by omega) (by unfold fuel; omega) hp (Nat.le_refl 1) h1 (by unfold putL; simp)
  rw [this]
  rfl

theorem c_i_blendAll {p q : dPose} (sh : Nat) (h1 : 1 ≤ p.2.1.length) (h2 : p.2.1.length ≤ 12) (hq : q.2.1.length = p.2.1.length) : g_i_blendAll p q sh = some (blendV p q sh, (true, ())) := by
  unfold g_i_blendAll
  rw [c_Repeat_bool true h1 (by omega), opt_bind_some]
  unfold g_i_BlendPoses
  have hpair : t_i_arePair p q = true := by
    unfold t_i_arePair
    rw [se_isPose, (l03Few_T p).mpr ⟨h1, h2⟩, cond_t, ieq_t (by omega)]
  rw [hpair, bnot_t, cond_f, List.length_replicate, ieq_self, bnot_t, cond_f, c_CloneT _ (by omega), opt_bind_some, ix_ok (Int.le_refl 0) (by omega), opt_bind_some, show (0 : Int).toNat = 0 from rfl, repl_getD _ _ (by omega), cond_t]
  have := fill_loop (step := L_i_BlendPoses_1) (fun i acc => ((sh, (List.replicate p.2.1.length true, ((p.2.1.length : Int), ((i : Int), ())))), ((p, ()), ((q, ()), (((0, (0, (0, ()))), ()), (acc, ((t_i_BetweenVectors p.1 q.1 sh, ()), ()))))))) (fun acc => ((), (((0, (0, (0, ()))), ()), (acc, ((t_i_BetweenVectors p.1 q.1 sh, ()), ()))))) (fun j => nearOf (p.2.1.getD j zTurn) (q.2.1.getD j zTurn) sh) p.2.1.length
    (fun r i acc hi ha => by
      simp only [L_i_BlendPoses_1, List.length_replicate]
      simp only [ilt_nat hi, ix_nat hi, ix_nat (show i < q.2.1.length by omega), ix_nat (show i < acc.length by omega), iadd_nat (show i < 4611686018427387904 by omega), repl_getD _ _ hi, se_NearTurn, c_near, opt_bind_some, cond_t])
    (fun r acc ha => by simp only [L_i_BlendPoses_1, ilt_self, cond_f]) (by omega) p.2.1 rfl
  rw [show ((0 : Nat) : Int) = 0 from rfl] at this
  rw [this]
  rfl

/-! the pose of a run -/
def clipOf (m : dMachine) (st : Nat) : dClip := m.1.getD (m.2.1.getD st zState).1.toNat zClip
theorem clipOf_ok {m : dMachine} (h : machOK m = true) {st : Nat} (hs : st < m.2.1.length) : clipOK (clipOf m st) = true ∧ (clipOf m st).2.2.1.length = (m.1.getD 0 zClip).2.2.1.length := by
  obtain ⟨_, _, _, h4, _, _⟩ := machOK_T h
  have h1 := state_clip h hs
  exact clipAt_T (h4 (m.2.1.getD st zState).1.toNat (by omega))
theorem tracks_le {m : dMachine} (h : machOK m = true) {st : Nat} (hs : st < m.2.1.length) : 1 ≤ (clipOf m st).2.2.1.length ∧ (clipOf m st).2.2.1.length ≤ 12 := by
  have := (clipHead_T (clipOK_T (clipOf_ok h hs).1).1).2.2
  omega

def poseOf (m : dMachine) (r : dRun) : dPose :=
  bif ilt r.2.2.1 0 then poseAt (clipOf m r.1.toNat) r.2.1
  else blendV (poseAt (clipOf m r.2.2.1.toNat) r.2.2.2.1) (poseAt (clipOf m r.1.toNat) r.2.1) (fdiv .f32 (fofInt .f32 r.2.2.2.2.2.1) (fofInt .f32 r.2.2.2.2.1))

theorem mask_loop (r : dRun) (b0 : dVec) (r1 : List dTurn) (b2 : dVec) (r3 : List dTurn) (b4 : dVec) (n : Nat) (hn : n ≤ 12) : ∀ (m i N : Nat), i + m = n → m < N →
    iter L_s_l07Pose_1 N ((r, ((n : Int), ((i : Int), ()))), ((b0, ()), (r1, ((b2, ()), (r3, ((b4, ()), (List.replicate i true, ()))))))) = some ((r, ()), ((b0, ()), (r1, ((b2, ()), (r3, ((b4, ()), (List.replicate n true, ())))))))
  | 0, i, N, h1, h2 => by
    obtain _ | N := N
    · omega
    rw [iter_succ, show i = n by omega]
    simp only [L_s_l07Pose_1, ilt_self, cond_f]
  | m + 1, i, N, h1, h2 => by
    obtain _ | N := N
    · omega
    have ih := mask_loop r b0 r1 b2 r3 b4 n hn m (i + 1) N (by omega) (by omega)
    rw [List.replicate_succ'] at ih
    rw [iter_succ]
    simp only [L_s_l07Pose_1, List.length_replicate]
    rw [ilt_nat (show i < n by omega), iadd_nat (by omega), ble_t (by omega)]
    exact ih

theorem c_s_l07Pose {m : dMachine} (h : machOK m = true) {r : dRun} (hr : RunT m r) : g_s_l07Pose m r = some (poseOf m r) := by
  have hs := hr.state
  have hc := state_clip h (j := r.1.toNat) (by omega)
  have hk := clipOf_ok h (st := r.1.toNat) (by omega)
  unfold g_s_l07Pose poseOf
  rw [ix_ok hs.1 hs.2, opt_bind_some, ix_ok hc.1 hc.2, opt_bind_some]
  have hp := c_s_l05Pose hk.1 r.2.1
  unfold clipOf at hp
  rw [hp, opt_bind_some]
  cases h1 : ilt r.2.2.1 0
  rotate_left
  · rfl
  (simp only [ilt_T, ilt_F, ile_T, ile_F, ieq_T, ieq_F, bnot_T, bnot_F, ble_T, ble_F, nz_T, nz_F, nonneg_T, nonneg_F] at h1)
  rw [cond_f, cond_f]
  obtain ⟨h2, h3, h4, h5⟩ := hr.rest.resolve_left (by omega)
  have hc' := state_clip h (j := r.2.2.1.toNat) (by omega)
  have hk' := clipOf_ok h (st := r.2.2.1.toNat) (by omega)
  have ht := tracks_le h (st := r.1.toNat) (by omega)
  rw [ix_ok h2.1 h2.2, opt_bind_some, ix_ok hc'.1 hc'.2, opt_bind_some]
  have hp' := c_s_l05Pose hk'.1 r.2.2.2.1
  unfold clipOf at hp'
  rw [hp', opt_bind_some]
  have e1 : m.1.getD (m.2.1.getD r.1.toNat zState).1.toNat zClip = clipOf m r.1.toNat := rfl
  have e2 : m.1.getD (m.2.1.getD r.2.2.1.toNat zState).1.toNat zClip = clipOf m r.2.2.1.toNat := rfl
  rw [e1, e2]
  have hl1 := poseAt_len (clipOf m r.1.toNat) r.2.1
  have hl2 := poseAt_len (clipOf m r.2.2.1.toNat) r.2.2.2.1
  have hm := mask_loop r (0, (0, (0, ()))) (poseAt (clipOf m r.1.toNat) r.2.1).2.1 (poseAt (clipOf m r.1.toNat) r.2.1).1 (poseAt (clipOf m r.2.2.1.toNat) r.2.2.2.1).2.1 (poseAt (clipOf m r.2.2.1.toNat) r.2.2.2.1).1 (poseAt (clipOf m r.1.toNat) r.2.1).2.1.length (by omega) (poseAt (clipOf m r.1.toNat) r.2.1).2.1.length 0 fuel (by omega) (by unfold fuel; omega)
  rw [show ((0 : Nat) : Int) = 0 from rfl, List.replicate_zero] at hm
  rw [hm]
  simp only [opt_bind_some]
  have hb := c_s_l03Blend (p := poseAt (clipOf m r.2.2.1.toNat) r.2.2.2.1) (q := poseAt (clipOf m r.1.toNat) r.2.1) (fdiv .f32 (fofInt .f32 r.2.2.2.2.2.1) (fofInt .f32 r.2.2.2.2.1)) (by omega) (by omega) (by omega)
  rw [show (poseAt (clipOf m r.2.2.1.toNat) r.2.2.2.1).2.1.length = (poseAt (clipOf m r.1.toNat) r.2.1).2.1.length by omega] at hb
  exact congrArg (fun x => Option.bind x fun y => some y) hb

theorem c_i_at {m : dMachine} (h : machOK m = true) {st : Int} (h0 : 0 ≤ st) (h1 : st < m.2.1.length) (a : Int) : g_i_Machine_at m st a = some (poseAt (clipOf m st.toNat) a) := by
  have hc := state_clip h (j := st.toNat) (by omega)
  have hk := clipOf_ok h (st := st.toNat) (by omega)
  unfold g_i_Machine_at
  rw [ix_ok h0 h1, opt_bind_some, ix_ok hc.1 hc.2, opt_bind_some]
  have hp := c_i_sample hk.1 a
  unfold clipOf at hp
  rw [hp]
  rfl

theorem c_i_pose {m : dMachine} (h : machOK m = true) {r : dRun} (hr : RunT m r) : g_i_Machine_pose m r = some (poseOf m r) := by
  have hs := hr.state
  unfold g_i_Machine_pose poseOf
  rw [c_i_at h hs.1 hs.2, opt_bind_some]
  by_cases h1 : 0 ≤ r.2.2.1
  rotate_left
  · rw [ile_f (by omega), ilt_t (by omega)]; rfl
  rw [ile_t h1, ilt_f h1, cond_t, cond_f]
  obtain ⟨h2, h3, h4, h5⟩ := hr.rest.resolve_left (by omega)
  have hk := clipOf_ok h (st := r.1.toNat) (by omega)
  have hk' := clipOf_ok h (st := r.2.2.1.toNat) (by omega)
  have ht := tracks_le h (st := r.1.toNat) (by omega)
  have hl1 := poseAt_len (clipOf m r.1.toNat) r.2.1
  have hl2 := poseAt_len (clipOf m r.2.2.1.toNat) r.2.2.2.1
  rw [c_i_at h h2.1 h2.2, opt_bind_some, c_i_blendAll _ (by omega) (by omega) (by omega)]
  rfl

theorem poseOf_len {m : dMachine} (h : machOK m = true) {r : dRun} (hr : RunT m r) : (poseOf m r).2.1.length ≤ 12 := by
  have hs := hr.state
  have ht := tracks_le h (st := r.1.toNat) (by omega)
  unfold poseOf
  by_cases h1 : 0 ≤ r.2.2.1
  · obtain ⟨h2, _⟩ := hr.rest.resolve_left (by omega)
    have ht' := tracks_le h (st := r.2.2.1.toNat) (by omega)
    rw [ilt_f h1, cond_f, blendV_len, poseAt_len]
    omega
  · rw [ilt_t (by omega), cond_t, poseAt_len]
    omega

theorem z_Pose_len (p : dPose) : z_Pose p = p.2.1.length := szL_zero p.2.1

end Go.Fw
