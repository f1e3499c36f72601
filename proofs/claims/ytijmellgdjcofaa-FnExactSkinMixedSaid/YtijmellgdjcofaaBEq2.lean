/- The reference's functions and the program's compute the same: skeletons and skins. No condition. -/
import Derived.Test.YtijmellgdjcofaaBEq1
set_option linter.unusedVariables false
set_option linter.unusedSimpArgs false
namespace Go.Fw

/-! skeletons -/
def boneOK (k : dSkel) (i : Nat) : Bool := t_s_l00In (k.1.getD i zRootKey).1 0 ((i : Int) - 1)
def isSkel (k : dSkel) : Bool := bif t_s_l00In (k.1.length : Int) 1 12 then bif ieq (k.1.getD 0 zRootKey).1 (-1) then allFrom (boneOK k) 1 (k.1.length - 1) else false else false

theorem isSkel_T {k : dSkel} (h : isSkel k = true) : (1 ≤ k.1.length ∧ k.1.length ≤ 12) ∧ (k.1.getD 0 zRootKey).1 = -1 ∧ ∀ i, 1 ≤ i → i < k.1.length → 0 ≤ (k.1.getD i zRootKey).1 ∧ (k.1.getD i zRootKey).1 < i := by
  unfold isSkel at h
  cases h1 : t_s_l00In (k.1.length : Int) 1 12
  · rw [h1] at h; cases h
  rw [h1, cond_t] at h
  rw [l00In_T] at h1
  cases h2 : ieq (k.1.getD 0 zRootKey).1 (-1)
  · rw [h2] at h; cases h
  rw [h2, cond_t] at h
  (simp only [ilt_T, ilt_F, ile_T, ile_F, ieq_T, ieq_F, bnot_T, bnot_F, ble_T, ble_F, nz_T, nz_F, nonneg_T, nonneg_F] at h2)
  refine ⟨by omega, h2, fun i h3 h4 => ?_⟩
  have := allFrom_T h i h3 (by omega)
  unfold boneOK at this
  rw [l00In_T] at this
  omega

theorem c_s_l03Is (k : dSkel) (h : k.1.length < 4611686018427387904) : g_s_l03Is k = some (isSkel k) := by
  unfold g_s_l03Is isSkel
  cases h1 : t_s_l00In (k.1.length : Int) 1 12
  · rfl
  rw [l00In_T] at h1
  rw [bnot_t, cond_f, cond_t, ix_ok (by omega) (by omega), opt_bind_some, show (0 : Int).toNat = 0 from rfl]
  cases h2 : ieq (k.1.getD 0 zRootKey).1 (-1)
  · rfl
  rw [bnot_t, cond_f, cond_t]
  have := all_loop1 (step := L_s_l03Is_1) (fun i => ((k, (false, ((k.1.length : Int), ((i : Int), ())))), ())) (false, ((false, ()), ())) (true, ((false, ()), ())) (boneOK k) 1 (k.1.length - 1)
    (fun j h3 h4 r => by
      simp only [L_s_l03Is_1]
      rw [ilt_nat (show j < k.1.length by omega), ix_nat (show j < k.1.length by omega), iadd_nat (by omega), isub_ok (by omega) (by omega), opt_bind_some, cond_t, bif_not]
      rfl)
    (fun r => by simp only [L_s_l03Is_1]; rw [ilt_f (by omega), cond_f]) (by omega)
  rw [show ((1 : Nat) : Int) = 1 from rfl] at this
  rw [this]
  cases allFrom (boneOK k) 1 (k.1.length - 1) <;> rfl

theorem drop_getD {α : Type} (l : List α) (i j : Nat) (z : α) : (l.drop i).getD j z = l.getD (i + j) z := by
  simp [List.getD_eq_getElem?_getD]

theorem c_i_ValidSkeleton (k : dSkel) (h : k.1.length < 4611686018427387904) : g_i_ValidSkeleton k = some (isSkel k) := by
  unfold g_i_ValidSkeleton isSkel
  cases h1 : t_s_l00In (k.1.length : Int) 1 12
  · rw [l00In_F] at h1
    by_cases h2 : (k.1.length : Int) < 1
    · rw [ilt_t h2]; rfl
    · rw [ilt_f (by omega), cond_f, ilt_t (by omega)]; rfl
  rw [l00In_T] at h1
  rw [ilt_f h1.1, cond_f, ilt_f h1.2, cond_f, cond_t, ix_ok (by omega) (by omega), opt_bind_some, show (0 : Int).toNat = 0 from rfl]
  cases h2 : ieq (k.1.getD 0 zRootKey).1 (-1)
  · rfl
  rw [bnot_t, cond_f, cond_t, decide_eq_true h1.1, cond_t, List.take_length]
  have hd : (k.1.drop 1).length = k.1.length - 1 := by simp
  have := all_loop (step := L_i_ValidSkeleton_1) (fun i => ((false, (k.1.drop 1, (((k.1.drop 1).length : Int), ((i : Int), ())))), ())) (false, ((false, ()), ())) (true, ((false, ()), ())) (fun j => boneOK k (j + 1)) (k.1.drop 1).length
    (fun j h3 r => by
      simp only [L_i_ValidSkeleton_1]
      rw [ilt_nat h3, ix_nat h3, iadd_nat (by omega), opt_bind_some, cond_t, drop_getD, show 1 + j = j + 1 by omega]
      unfold boneOK
      cases hb : t_s_l00In (k.1.getD (j + 1) zRootKey).1 0 (((j + 1 : Nat) : Int) - 1)
      · rw [l00In_F] at hb
        by_cases h5 : (k.1.getD (j + 1) zRootKey).1 < 0
        · rw [ilt_t h5]; rfl
        · rw [ilt_f (by omega), cond_f, ilt_t (by omega)]; rfl
      · rw [l00In_T] at hb
        rw [ilt_f hb.1, cond_f, ilt_f (by omega)]; rfl)
    (fun r => by simp only [L_i_ValidSkeleton_1, ilt_self, cond_f]) (by omega)
  rw [show ((0 : Nat) : Int) = 0 from rfl] at this
  rw [this, allFrom_shift, hd]
  cases allFrom (boneOK k) (0 + 1) (k.1.length - 1) <;> rfl

/-! skins -/
def risesAt (l : List Int) (low high : Int) (i : Nat) : Bool := bif t_s_l00In (l.getD i 0) low high then bif ilt 0 (i : Int) then !(ile (l.getD i 0) (l.getD (i - 1) 0)) else true else false
def rises (l : List Int) (low high : Int) : Bool := allFrom (risesAt l low high) 0 l.length

theorem c_s_l00Rises (l : List Int) (low high : Int) (h : l.length < 4611686018427387904) : g_s_l00Rises l low high = some (rises l low high) := by
  unfold g_s_l00Rises rises
  have := all_loop (step := L_s_l00Rises_1) (fun i => ((l, (low, (high, (false, ((i : Int), ()))))), ())) (false, ((false, ()), ())) (true, ((false, ()), ())) (risesAt l low high) l.length
    (fun j h3 r => by
      simp only [L_s_l00Rises_1]
      rw [ilt_nat h3, ix_nat h3, iadd_nat (by omega), opt_bind_some, cond_t]
      unfold risesAt
      cases t_s_l00In (l.getD j 0) low high
      · rfl
      by_cases h0 : 0 < j
      · rw [ilt_t (by omega), isub_ok (by omega) (by omega), ix_ok (by omega) (by omega), show ((j : Int) - 1).toNat = j - 1 by omega]
        simp only [opt_bind_some, bnot_t, cond_f, cond_t, bif_not]
      · rw [ilt_f (by omega)]; rfl)
    (fun r => by simp only [L_s_l00Rises_1, ilt_self, cond_f]) h
  rw [show ((0 : Nat) : Int) = 0 from rfl] at this
  rw [this]
  cases allFrom (risesAt l low high) 0 l.length <;> rfl

def lastOf (l : List Int) : Nat → Int
  | 0 => -1
  | i + 1 => l.getD i 0
theorem lastOf_zero (l : List Int) : lastOf l 0 = -1 := rfl
theorem lastOf_succ (l : List Int) (i : Nat) : lastOf l (i + 1) = l.getD i 0 := rfl
def risesI (l : List Int) (n : Int) (i : Nat) : Bool := bif ile (l.getD i 0) (lastOf l i) then false else !(ile n (l.getD i 0))

theorem risesI_eq (l : List Int) (n : Int) (h : n < 4611686018427387904) : allFrom (risesI l n) 0 l.length = rises l 0 (n - 1) := by
  unfold rises
  refine allFrom_eq ⟨fun h1 => ?_, fun h1 => ?_⟩
  · intro j
    induction j with
    | zero =>
      intro h2 h3
      have := h1 0 h2 h3
      unfold risesI at this
      rw [lastOf_zero] at this
      unfold risesAt
      cases h5 : ile (l.getD 0 0) (-1)
      · rw [h5, cond_f] at this
        (simp only [ilt_T, ilt_F, ile_T, ile_F, ieq_T, ieq_F, bnot_T, bnot_F, ble_T, ble_F, nz_T, nz_F, nonneg_T, nonneg_F] at h5)
        (simp only [ilt_T, ilt_F, ile_T, ile_F, ieq_T, ieq_F, bnot_T, bnot_F, ble_T, ble_F, nz_T, nz_F, nonneg_T, nonneg_F] at this)
        rw [(l00In_T _ _ _).mpr (by omega), ilt_f (by omega)]; rfl
      · rw [h5] at this; cases this
    | succ j ih =>
      intro h2 h3
      have h4 := ih (by omega) (by omega)
      have := h1 (j + 1) h2 h3
      unfold risesI at this
      rw [lastOf_succ] at this
      unfold risesAt at h4 ⊢
      cases h5 : ile (l.getD (j + 1) 0) (l.getD j 0)
      · rw [h5, cond_f] at this
        (simp only [ilt_T, ilt_F, ile_T, ile_F, ieq_T, ieq_F, bnot_T, bnot_F, ble_T, ble_F, nz_T, nz_F, nonneg_T, nonneg_F] at this)
        have h6 : t_s_l00In (l.getD j 0) 0 (n - 1) = true := by
          cases hx : t_s_l00In (l.getD j 0) 0 (n - 1)
          · rw [hx] at h4; cases h4
          · rfl
        rw [l00In_T] at h6
        have h7 := h5
        (simp only [ilt_T, ilt_F, ile_T, ile_F, ieq_T, ieq_F, bnot_T, bnot_F, ble_T, ble_F, nz_T, nz_F, nonneg_T, nonneg_F] at h7)
        rw [(l00In_T _ _ _).mpr (by omega), ilt_t (by omega), cond_t, cond_t, Nat.add_sub_cancel, h5]; rfl
      · rw [h5] at this; cases this
  · intro j h2 h3
    have h4 := h1 j h2 h3
    unfold risesAt at h4
    cases hx : t_s_l00In (l.getD j 0) 0 (n - 1)
    · rw [hx] at h4; cases h4
    rw [hx, cond_t] at h4
    rw [l00In_T] at hx
    unfold risesI
    cases j with
    | zero =>
      rw [lastOf_zero, ile_f (by omega), cond_f, ile_f (by omega)]; rfl
    | succ j =>
      rw [ilt_t (by omega), cond_t, Nat.add_sub_cancel] at h4
      (simp only [ilt_T, ilt_F, ile_T, ile_F, ieq_T, ieq_F, bnot_T, bnot_F, ble_T, ble_F, nz_T, nz_F, nonneg_T, nonneg_F] at h4)
      rw [lastOf_succ, ile_f (by omega), cond_f, ile_f (by omega)]; rfl

theorem c_IsSkin_inner (k : dSkel) (t18 : List dSkinPoint) (t19 t20 : Int) (l : List Int) (h : l.length < 4611686018427387904) (hk : k.1.length < 4611686018427387904) :
    iter L_i_IsSkin_2 fuel ((false, (-1, (t18, (t19, (t20, (l, ((l.length : Int), (0, ())))))))), ((k, ()), ())) = some (bif rises l 0 ((k.1.length : Int) - 1) then (false, ((false, (t18, (t19, (t20, ())))), ((k, ()), ()))) else (true, ((false, (t18, (t19, (t20, ())))), ((k, ()), ())))) := by
  have := all_loop (step := L_i_IsSkin_2) (fun i => ((false, (lastOf l i, (t18, (t19, (t20, (l, ((l.length : Int), ((i : Int), ())))))))), ((k, ()), ()))) (false, ((false, (t18, (t19, (t20, ())))), ((k, ()), ()))) (true, ((false, (t18, (t19, (t20, ())))), ((k, ()), ()))) (risesI l (k.1.length : Int)) l.length
    (fun j h3 r => by
      simp only [L_i_IsSkin_2]
      rw [ilt_nat h3, ix_nat h3, iadd_nat (by omega), opt_bind_some, cond_t]
      unfold risesI
      cases ile (l.getD j 0) (lastOf l j)
      · cases ile (k.1.length : Int) (l.getD j 0) <;> rfl
      · rfl)
    (fun r => by simp only [L_i_IsSkin_2, ilt_self, cond_f]) h
  rw [risesI_eq l _ (by omega)] at this
  exact this

def skinPt (k : dSkel) (p : dSkinPoint) : Bool := bif t_s_l09Point p then rises p.2.1 0 ((k.1.length : Int) - 1) else false
def isSkin (k : dSkel) (ps : List dSkinPoint) : Bool := bif ile (ps.length : Int) 24 then allFrom (fun j => skinPt k (ps.getD j zSkinPoint)) 0 ps.length else false

theorem skinPt_len {ps : List dSkinPoint} (h : szL z_SkinPoint ps < 4611686018427387904) {j : Nat} (hj : j < ps.length) : (ps.getD j zSkinPoint).2.1.length < 4611686018427387904 := by
  have h1 : szL z_I64 (ps.getD j zSkinPoint).2.1 + szL z_F32 (ps.getD j zSkinPoint).2.2.1 ≤ szL z_SkinPoint ps := getD_ok (P := fun x => z_SkinPoint x ≤ szL z_SkinPoint ps) (fun x hx => szL_mem hx) hj
  have h2 := szL_len (s := z_I64) (ps.getD j zSkinPoint).2.1
  omega

theorem c_s_l09Skin (k : dSkel) (ps : List dSkinPoint) (h : szL z_SkinPoint ps < 4611686018427387904) (hk : k.1.length < 4611686018427387904) : g_s_l09Skin k ps = some (isSkin k ps) := by
  have hl := szL_len (s := z_SkinPoint) ps
  unfold g_s_l09Skin isSkin
  have := all_loop (step := L_s_l09Skin_1) (fun i => ((k, (ps, (false, ((ps.length : Int), ((i : Int), ()))))), ())) (false, ((ps, (false, ())), ())) (true, ((ps, (false, ())), ())) (fun j => skinPt k (ps.getD j zSkinPoint)) ps.length
    (fun j h3 r => by
      simp only [L_s_l09Skin_1]
      rw [ilt_nat h3, ix_nat h3, iadd_nat (by omega), isub_ok (by omega) (by omega)]
      simp only [opt_bind_some, cond_t]
      rw [c_s_l00Rises _ _ _ (skinPt_len h h3), opt_bind_some]
      unfold skinPt
      cases t_s_l09Point (ps.getD j zSkinPoint)
      · rfl
      · simp only [bnot_t, cond_f, cond_t, bif_not])
    (fun r => by simp only [L_s_l09Skin_1, ilt_self, cond_f]) (by omega)
  rw [show ((0 : Nat) : Int) = 0 from rfl] at this
  rw [this]
  cases allFrom (fun j => skinPt k (ps.getD j zSkinPoint)) 0 ps.length
  · cases ile (ps.length : Int) 24 <;> rfl
  · simp only [cond_t, opt_bind_some, cond_f]
    cases ile (ps.length : Int) 24 <;> rfl

theorem c_IsSkin_outer (k : dSkel) (ps : List dSkinPoint) (h : szL z_SkinPoint ps < 4611686018427387904) (hk : k.1.length < 4611686018427387904) :
    iter L_i_IsSkin_1 fuel ((false, (ps, ((ps.length : Int), (0, ())))), ((k, ()), ())) = some (bif allFrom (fun j => skinPt k (ps.getD j zSkinPoint)) 0 ps.length then (false, ((false, ()), ())) else (true, ((false, ()), ()))) := by
  have hl := szL_len (s := z_SkinPoint) ps
  exact all_loop (step := L_i_IsSkin_1) (fun i => ((false, (ps, ((ps.length : Int), ((i : Int), ())))), ((k, ()), ()))) (false, ((false, ()), ())) (true, ((false, ()), ())) (fun j => skinPt k (ps.getD j zSkinPoint)) ps.length
    (fun j h3 r => by
      simp only [L_i_IsSkin_1]
      rw [ilt_nat h3, ix_nat h3, opt_bind_some, cond_t, show t_i_SkinPoint_isHeld (ps.getD j zSkinPoint) = t_s_l09Point (ps.getD j zSkinPoint) from rfl, c_IsSkin_inner k _ _ _ _ (skinPt_len h h3) hk, opt_bind_some]
      unfold skinPt
      cases t_s_l09Point (ps.getD j zSkinPoint)
      · rfl
      · cases rises (ps.getD j zSkinPoint).2.1 0 ((k.1.length : Int) - 1)
        · rfl
        · simp only [bnot_t, cond_f, cond_t]
          rw [iadd_nat (by omega)])
    (fun r => by simp only [L_i_IsSkin_1, ilt_self, cond_f]) (by omega)

theorem c_i_IsSkin (k : dSkel) (ps : List dSkinPoint) (h : szL z_SkinPoint ps < 4611686018427387904) (hk : k.1.length < 4611686018427387904) : g_i_IsSkin k ps = some (bif isSkel k then isSkin k ps else false) := by
  have hl := szL_len (s := z_SkinPoint) ps
  unfold g_i_IsSkin isSkin
  rw [c_i_ValidSkeleton k hk, opt_bind_some]
  cases isSkel k
  · rfl
  rw [bnot_t, cond_f, cond_t, c_IsSkin_outer k ps h hk]
  by_cases h1 : (ps.length : Int) ≤ 24
  · rw [ilt_f h1, ile_t h1, cond_f, cond_t, opt_bind_some]
    cases allFrom (fun j => skinPt k (ps.getD j zSkinPoint)) 0 ps.length <;> rfl
  · rw [ilt_t (by omega), ile_f (by omega)]; rfl

end Go.Fw
