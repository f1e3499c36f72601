/- The reference's functions and the program's compute the same: the moves of bones. No condition. -/
import Derived.Test.YtijmellgdjcofaaBEq4
set_option linter.unusedVariables false
set_option linter.unusedSimpArgs false
namespace Go.Fw

/-! lists that are filled place by place -/
theorem take_getD {α : Type} {l l' : List α} {i j : Nat} {z : α} (h : l.take i = l') (hj : j < i) : l.getD j z = l'.getD j z := by
  subst h
  rw [List.getD_eq_getElem?_getD, List.getD_eq_getElem?_getD, List.getElem?_take, if_pos hj]
theorem take_set {α : Type} {l l' : List α} {i : Nat} {x : α} (h : l.take i = l') (hi : i < l.length) : (l.set i x).take (i + 1) = l' ++ [x] := by
  subst h
  rw [List.take_add_one, List.getElem?_set_self hi, List.take_set_of_le (Nat.le_refl _)]
  rfl
theorem getD_set_other {α : Type} {l : List α} {i j : Nat} {x z : α} (h : i ≠ j) : (l.set i x).getD j z = l.getD j z := by
  rw [List.getD_eq_getElem?_getD, List.getD_eq_getElem?_getD, List.getElem?_set_ne h]
theorem getD_set_same {α : Type} {l : List α} {i : Nat} {x z : α} (h : i < l.length) : (l.set i x).getD i z = x := by
  rw [List.getD_eq_getElem?_getD, List.getElem?_set_self h]; rfl
theorem getD_app {α : Type} {l m : List α} {j : Nat} {z : α} (h : j < l.length) : (l ++ m).getD j z = l.getD j z := by
  rw [List.getD_eq_getElem?_getD, List.getD_eq_getElem?_getD, List.getElem?_append_left h]

/-! functions of one shape -/
/-! the world of a pose -/
def parOf (k : dSkel) (i : Nat) : Nat := (k.1.getD i zRootKey).1.toNat
def wT (k : dSkel) (p : dPose) : Nat → List dTurn
  | 0 => []
  | i + 1 => wT k p i ++ [if i = 0 then p.2.1.getD 0 zTurn else t_s_l02Mul ((wT k p i).getD (parOf k i) zTurn) (p.2.1.getD i zTurn)]
def wV (k : dSkel) (p : dPose) : Nat → List dVec
  | 0 => []
  | i + 1 => wV k p i ++ [if i = 0 then p.1 else t_s_l01Add ((wV k p i).getD (parOf k i) zVec) (t_s_l02Rotate ((wT k p i).getD (parOf k i) zTurn) (k.1.getD i zRootKey).2.1)]
theorem wT_len (k : dSkel) (p : dPose) : ∀ i, (wT k p i).length = i
  | 0 => rfl
  | i + 1 => by simp [wT, wT_len k p i]
theorem wV_len (k : dSkel) (p : dPose) : ∀ i, (wV k p i).length = i
  | 0 => rfl
  | i + 1 => by simp [wV, wV_len k p i]
theorem wT_succ (k : dSkel) (p : dPose) {i : Nat} (h : 1 ≤ i) : wT k p (i + 1) = wT k p i ++ [t_s_l02Mul ((wT k p i).getD (parOf k i) zTurn) (p.2.1.getD i zTurn)] := by
  simp only [wT, if_neg (show i ≠ 0 by omega)]
theorem wV_succ (k : dSkel) (p : dPose) {i : Nat} (h : 1 ≤ i) : wV k p (i + 1) = wV k p i ++ [t_s_l01Add ((wV k p i).getD (parOf k i) zVec) (t_s_l02Rotate ((wT k p i).getD (parOf k i) zTurn) (k.1.getD i zRootKey).2.1)] := by
  simp only [wV, if_neg (show i ≠ 0 by omega)]

def poseOK (k : dSkel) (p : dPose) : Bool := bif isSkel k then ieq (p.2.1.length : Int) (k.1.length : Int) else false
theorem poseOK_T {k : dSkel} {p : dPose} (h : poseOK k p = true) : isSkel k = true ∧ p.2.1.length = k.1.length := by
  unfold poseOK at h
  cases hk : isSkel k
  · rw [hk] at h; cases h
  · rw [hk, cond_t] at h
    (simp only [ilt_T, ilt_F, ile_T, ile_F, ieq_T, ieq_F, bnot_T, bnot_F, ble_T, ble_F, nz_T, nz_F, nonneg_T, nonneg_F] at h)
    exact ⟨rfl, by omega⟩
theorem c_s_l03Pose (k : dSkel) (p : dPose) (h : k.1.length < 4611686018427387904) : g_s_l03Pose k p = some (poseOK k p) := by
  unfold g_s_l03Pose poseOK
  rw [c_s_l03Is k h, opt_bind_some]
  cases isSkel k <;> rfl
theorem c_i_IsPose (k : dSkel) (p : dPose) (h : k.1.length < 4611686018427387904) : g_i_IsPose k p = some (poseOK k p) := by
  unfold g_i_IsPose poseOK
  rw [c_i_ValidSkeleton k h, opt_bind_some]
  cases isSkel k <;> rfl

section
variable {k : dSkel} {p : dPose} (hk : isSkel k = true)
include hk

theorem ix_par {i m : Nat} (h1 : 1 ≤ i) (h2 : i < k.1.length) (hm : i ≤ m) : ix (k.1.getD i zRootKey).1 m = some (parOf k i) := by
  obtain ⟨_, _, h⟩ := isSkel_T hk
  have := h i h1 h2
  exact ix_ok this.1 (by omega)
theorem par_lt {i : Nat} (h1 : 1 ≤ i) (h2 : i < k.1.length) : parOf k i < i := by
  obtain ⟨_, _, h⟩ := isSkel_T hk
  have := h i h1 h2
  unfold parOf
  omega

variable (hp : p.2.1.length = k.1.length)
include hp
theorem c_s_l03World : g_s_l03World k p = some (wT k p k.1.length, (wV k p k.1.length, ())) := by
  obtain ⟨hn, _, _⟩ := isSkel_T hk
  have key : ∀ (m i N : Nat), i + m = k.1.length → 1 ≤ i → m < N → iter L_s_l03World_1 N ((k, (p, ((i : Int), ()))), (wT k p i, (wV k p i, ()))) = some ((), (wT k p k.1.length, (wV k p k.1.length, ()))) := by
    intro m
    induction m with
    | zero =>
      intro i N h1 h2 h3
      obtain _ | N := N
      · omega
      rw [iter_succ, show i = k.1.length by omega]
      simp only [L_s_l03World_1, ilt_self, cond_f]
    | succ m ih =>
      intro i N h1 h2 h3
      obtain _ | N := N
      · omega
      have hi : i < k.1.length := by omega
      have hl := par_lt hk h2 hi
      rw [iter_succ]
      simp only [L_s_l03World_1, List.length_append, wT_len, wV_len, List.length_cons, List.length_nil]
      simp only [ilt_nat hi, ix_nat hi, ix_nat (show i < p.2.1.length by omega), ix_par hk h2 hi (Nat.le_refl i), ix_par hk h2 hi (show i ≤ i + (0 + 1) by omega), iadd_nat (show i < 4611686018427387904 by omega),
        ble_t (show i + 1 ≤ 4294967296 by omega), opt_bind_some, cond_t]
      rw [getD_app (by rw [wT_len]; exact hl), ← wT_succ k p h2, ← wV_succ k p h2]
      exact ih (i + 1) N (by omega) (by omega) (by omega)
  unfold g_s_l03World
  rw [ix_ok (Int.le_refl 0) (by omega), opt_bind_some]
  have := key (k.1.length - 1) 1 fuel (by omega) (Nat.le_refl 1) (by unfold fuel; omega)
  simp only [wT, wV, List.nil_append, if_true] at this
  rw [show ((1 : Nat) : Int) = 1 from rfl] at this
  rw [show (0 : Int).toNat = 0 from rfl, this]
  rfl

theorem c_i_world : g_i_Skeleton_world k p = some (wT k p k.1.length, (wV k p k.1.length, ())) := by
  obtain ⟨hn, _, _⟩ := isSkel_T hk
  have key : ∀ (m i N : Nat) (r1 : List dTurn) (r2 : List dVec), i + m = k.1.length → 1 ≤ i → m < N → r1.length = k.1.length → r2.length = k.1.length → r1.take i = wT k p i → r2.take i = wV k p i →
      iter L_i_Skeleton_world_1 N ((k.1, ((k.1.length : Int), ((i : Int), ()))), ((p, ()), (r1, (r2, ())))) = some ((), (wT k p k.1.length, (wV k p k.1.length, ()))) := by
    intro m
    induction m with
    | zero =>
      intro i N r1 r2 h1 h2 h3 h4 h5 h6 h7
      obtain _ | N := N
      · omega
      have e : i = k.1.length := by omega
      rw [iter_succ, e]
      simp only [L_i_Skeleton_world_1, ilt_self, cond_f]
      rw [e, List.take_of_length_le (by omega)] at h6 h7
      rw [h6, h7]
    | succ m ih =>
      intro i N r1 r2 h1 h2 h3 h4 h5 h6 h7
      obtain _ | N := N
      · omega
      have hi : i < k.1.length := by omega
      have hl := par_lt hk h2 hi
      rw [iter_succ]
      simp only [L_i_Skeleton_world_1, List.length_set, h4, h5]
      simp only [ilt_nat hi, ix_nat hi, ix_nat (show i < p.2.1.length by omega), ix_par hk h2 hi (show i ≤ k.1.length by omega), iadd_nat (show i < 4611686018427387904 by omega), ilt_t (show (0 : Int) < i by omega), opt_bind_some, cond_t]
      rw [getD_set_other (by omega)]
      refine ih (i + 1) N _ _ (by omega) (by omega) (by omega) (by rw [List.length_set]; exact h4) (by rw [List.length_set]; exact h5) ?_ ?_
      · rw [take_set h6 (by omega), wT_succ k p h2, take_getD h6 hl]; rfl
      · rw [take_set h7 (by omega), wV_succ k p h2, take_getD h6 hl, take_getD h7 hl]; rfl
  unfold g_i_Skeleton_world
  simp only [List.length_replicate]
  rw [mkOk_t (by omega) (by omega) (by omega), cond_t, cond_t]
  simp only [ix_ok (Int.le_refl 0) (show (0 : Int) < (p.2.1.length : Int) by omega), ix_ok (Int.le_refl 0) (show (0 : Int) < (k.1.length : Int) by omega), opt_bind_some, show (0 : Int).toNat = 0 from rfl]
  obtain ⟨N, hN⟩ : ∃ N, fuel = N + 1 := ⟨fuel - 1, by unfold fuel; omega⟩
  have hN2 : 4611686018427387900 ≤ N := by unfold fuel at hN; omega
  rw [hN, iter_succ]
  simp only [L_i_Skeleton_world_1]
  rw [ilt_t (show (0 : Int) < (k.1.length : Int) by omega), cond_t, ix_ok (Int.le_refl 0) (by omega), opt_bind_some, ilt_self, cond_f, iadd_ok (by omega) (by omega), show (0 : Int) + 1 = ((1 : Nat) : Int) from rfl,
    key (k.1.length - 1) 1 N _ _ (by omega) (Nat.le_refl 1) (by omega) (by simp) (by simp) ?_ ?_]
  · rfl
  · rw [take_set (l' := []) (by simp) (by simp; omega)]; rfl
  · rw [take_set (l' := []) (by simp) (by simp; omega)]; rfl
end

/-! moves -/
def mvT (a b : List dTurn) (i : Nat) : dTurn := t_s_l02Mul (b.getD i zTurn) (t_s_l02Inverse (a.getD i zTurn))
def mvV (a b : List dTurn) (at' to : List dVec) (i : Nat) : dVec := t_s_l01Less (to.getD i zVec) (t_s_l02Rotate (mvT a b i) (at'.getD i zVec))
theorem range_map_succ {α : Type} (f : Nat → α) (i : Nat) : (List.range (i + 1)).map f = (List.range i).map f ++ [f i] := by
  rw [List.range_succ, List.map_append]; rfl
theorem range_map_len {α : Type} (f : Nat → α) (i : Nat) : ((List.range i).map f).length = i := by simp

theorem s_moves_loop {a b : List dTurn} {at' to : List dVec} {n : Nat} (ha : a.length = n) (hb : b.length = n) (hat : at'.length = n) (hto : to.length = n) (hn : n ≤ 1048576) :
    ∀ (m i N : Nat), i + m = n → m < N → iter L_s_l09Moves_1 N (((n : Int), ((i : Int), ())), (a, (at', (b, (to, ((List.range i).map (mvT a b), ((List.range i).map (mvV a b at' to), ()))))))) = some ((), ((List.range n).map (mvT a b), ((List.range n).map (mvV a b at' to), ())))
  | 0, i, N, h1, h2 => by
    obtain _ | N := N
    · omega
    rw [iter_succ, show i = n by omega]
    simp only [L_s_l09Moves_1, ilt_self, cond_f]
  | m + 1, i, N, h1, h2 => by
    obtain _ | N := N
    · omega
    have hi : i < n := by omega
    have ih := s_moves_loop ha hb hat hto hn m (i + 1) N (by omega) (by omega)
    rw [range_map_succ, range_map_succ] at ih
    rw [iter_succ]
    simp only [L_s_l09Moves_1, range_map_len, ha, hb, hat, hto]
    simp only [ilt_nat hi, ix_nat hi, iadd_nat (show i < 4611686018427387904 by omega), ble_t (show i + 1 ≤ 4294967296 by omega), opt_bind_some, cond_t]
    exact ih

theorem i_moves_loop {a b : List dTurn} {at' to : List dVec} {n : Nat} (ha : a.length = n) (hb : b.length = n) (hat : at'.length = n) (hto : to.length = n) (hn : n ≤ 1048576) :
    ∀ (m i N : Nat) (r4 : List dTurn) (r5 : List dVec), i + m = n → m < N → r4.length = n → r5.length = n → r4.take i = (List.range i).map (mvT a b) → r5.take i = (List.range i).map (mvV a b at' to) → (∀ j, i ≤ j → r4.getD j zTurn = b.getD j zTurn) → (∀ j, i ≤ j → r5.getD j zVec = to.getD j zVec) →
      iter L_i_Skeleton_moves_1 N (((n : Int), ((i : Int), ())), (a, (at', (r4, (r5, ()))))) = some ((), ((List.range n).map (mvT a b), ((List.range n).map (mvV a b at' to), ())))
  | 0, i, N, r4, r5, h1, h2, h3, h4, h5, h6, h7, h8 => by
    obtain _ | N := N
    · omega
    have e : i = n := by omega
    rw [iter_succ, e]
    simp only [L_i_Skeleton_moves_1, ilt_self, cond_f]
    rw [e, List.take_of_length_le (by omega)] at h5 h6
    rw [h5, h6]
  | m + 1, i, N, r4, r5, h1, h2, h3, h4, h5, h6, h7, h8 => by
    obtain _ | N := N
    · omega
    have hi : i < n := by omega
    rw [iter_succ]
    simp only [L_i_Skeleton_moves_1, List.length_set, h3, h4, ha, hat]
    simp only [ilt_nat hi, ix_nat hi, iadd_nat (show i < 4611686018427387904 by omega), opt_bind_some, cond_t]
    rw [getD_set_same (by omega), h7 i (Nat.le_refl _), h8 i (Nat.le_refl _)]
    refine i_moves_loop ha hb hat hto hn m (i + 1) N _ _ (by omega) (by omega) (by rw [List.length_set]; exact h3) (by rw [List.length_set]; exact h4) ?_ ?_ (fun j hj => ?_) fun j hj => ?_
    · rw [take_set h5 (by omega), range_map_succ]; rfl
    · rw [take_set h6 (by omega), range_map_succ]; rfl
    · rw [getD_set_other (by omega)]; exact h7 j (by omega)
    · rw [getD_set_other (by omega)]; exact h8 j (by omega)

def movesT (k : dSkel) (r p : dPose) : List dTurn := (List.range k.1.length).map (mvT (wT k r k.1.length) (wT k p k.1.length))
def movesV (k : dSkel) (r p : dPose) : List dVec := (List.range k.1.length).map (mvV (wT k r k.1.length) (wT k p k.1.length) (wV k r k.1.length) (wV k p k.1.length))
theorem movesT_len (k : dSkel) (r p : dPose) : (movesT k r p).length = k.1.length := by simp [movesT]
theorem movesV_len (k : dSkel) (r p : dPose) : (movesV k r p).length = k.1.length := by simp [movesV]

theorem c_s_l09Moves {k : dSkel} {r p : dPose} (hk : isSkel k = true) (hr : r.2.1.length = k.1.length) (hp : p.2.1.length = k.1.length) : g_s_l09Moves k r p = some (movesT k r p, (movesV k r p, ())) := by
  obtain ⟨hn, _, _⟩ := isSkel_T hk
  unfold g_s_l09Moves
  rw [c_s_l03World hk hr, opt_bind_some, c_s_l03World hk hp, opt_bind_some]
  dsimp only
  rw [wT_len]
  have := s_moves_loop (wT_len k r _) (wT_len k p _) (wV_len k r _) (wV_len k p _) (show k.1.length ≤ 1048576 by omega) k.1.length 0 fuel (by omega) (by unfold fuel; omega)
  simp only [List.range_zero, List.map_nil] at this
  rw [show ((0 : Nat) : Int) = 0 from rfl] at this
  rw [this]
  rfl

theorem c_i_moves {k : dSkel} {r p : dPose} (hk : isSkel k = true) (hr : r.2.1.length = k.1.length) (hp : p.2.1.length = k.1.length) : g_i_Skeleton_moves k r p = some (movesT k r p, (movesV k r p, ())) := by
  obtain ⟨hn, _, _⟩ := isSkel_T hk
  unfold g_i_Skeleton_moves
  rw [c_i_world hk hr, opt_bind_some, c_i_world hk hp, opt_bind_some]
  dsimp only
  rw [wT_len]
  have := i_moves_loop (wT_len k r _) (wT_len k p _) (wV_len k r _) (wV_len k p _) (show k.1.length ≤ 1048576 by omega) k.1.length 0 fuel _ _ (by omega) (by unfold fuel; omega) (wT_len k p _) (wV_len k p _) rfl rfl (fun _ _ => rfl) (fun _ _ => rfl)
  rw [show ((0 : Nat) : Int) = 0 from rfl] at this
  rw [this]
  rfl

theorem skel_len {k : dSkel} (h : (z_Skel k : Int) ≤ 1048576) : k.1.length < 4611686018427387904 := by
  have : k.1.length ≤ z_Skel k := szL_len k.1
  omega

end Go.Fw
