/- The reference's functions and the program's compute the same: skeletons and skins. No condition. -/
import Derived.Test.YtijmellgdjcofaaBEq1
set_option linter.unusedVariables false
set_option linter.unusedSimpArgs false
namespace Go.Fw

/-! skeletons -/
def boneOK (k : dSkel) (i : Nat) : Bool := t_s_l00In (k.1.getD i zRootKey).1 0 ((i : Int) - 1)
def isSkel (k : dSkel) : Bool := bif t_s_l00In (k.1.length : Int) 1 12 then bif ieq (k.1.getD 0 zRootKey).1 (-1) then allFrom (boneOK k) 1 (k.1.length - 1) else false else false

theorem isSkel_T {k : dSkel} (h : isSkel k = true) : (1 ≤ k.1.length ∧ k.1.length ≤ 12) ∧ (k.1.getD 0 zRootKey).1 = -1 ∧ ∀ i, 1 ≤ i → i < k.1.length → 0 ≤ (k.1.getD i zRootKey).1 ∧ (k.1.getD i zRootKey).1 < i := by
  unfold isSkel at h
  cases h1 : t_s_l00In (k.1.length : Int) 1 12
  · rw [h1] at h; cases h
  rw [h1, cond_t] at h
  rw [l00In_T] at h1
  cases h2 : ieq (k.1.getD 0 zRootKey).1 (-1)
  · rw [h2] at h; cases h
  rw [h2, cond_t] at h
  (simp only [ilt_T, ilt_F, ile_T, ile_F, ieq_T, ieq_F, bnot_T, bnot_F, ble_T, ble_F, nz_T, nz_F, nonneg_T, nonneg_F] at h2)
  refine ⟨by omega, h2, fun i h3 h4 => ?_⟩
  have := allFrom_T h i h3 (by omega)
  unfold boneOK at this
  rw [l00In_T] at this
  omega

theorem c_s_l03Is (k : dSkel) (h : k.1.length < 4611686018427387904) : g_s_l03Is k = some (isSkel k) := by
  unfold g_s_l03Is isSkel
  cases h1 : t_s_l00In (k.1.length : Int) 1 12
  · rfl
  rw [l00In_T] at h1
  rw [bnot_t, cond_f, cond_t, ix_ok (by omega) (by omega), opt_bind_some, show (0 : Int).toNat = 0 from rfl]
  cases h2 : ieq (k.1.getD 0 zRootKey).1 (-1)
  · rfl
  rw [bnot_t, cond_f, cond_t]
  have := all_loop1 (step := L_s_l03Is_1) (fun i => ((k, (false, ((k.1.length : Int), ((i : Int), ())))), ())) (false, ((false, ()), ())) (true, ((false, ()), ())) (boneOK k) 1 (k.1.length - 1)
    (fun j h3 h4 r => by
      simp only [L_s_l03Is_1]
      rw [ilt_nat (show j < k.1.length by omega), ix_nat (show j < k.1.length by omega), iadd_nat (by omega), isub_ok (by omega) (by omega), opt_bind_some, cond_t, bif_not]
      rfl)
    (fun r => by simp only [L_s_l03Is_1]; rw [ilt_f (by omega), cond_f]) (by omega)
  rw [show ((1 : Nat) : Int) = 1 from rfl] at this
  rw [this]
  cases allFrom (boneOK k) 1 (k.1.length - 1) <;> rfl

theorem drop_getD {α : Type} (l : List α) (i j : Nat) (z : α) : (l.drop i).getD j z = l.getD (i + j) z := by
  simp [List.getD_eq_getElem?_getD]

theorem c_i_ValidSkeleton (k : dSkel) (h : k.1.length < 4611686018427387904) : g_i_ValidSkeleton k = some (isSkel k) := by
  unfold g_i_ValidSkeleton isSkel
  cases h1 : t_s_l00In (k.1.length : Int) 1 12
  · rw [l00In_F] at h1
    by_cases h2 : (k.1.length : Int) < 1
    · rw [ilt_t h2]; rfl
    · rw [ilt_f (by omega), cond_f, ilt_t (by omega)]; rfl
  rw [l00In_T] at h1
  rw [ilt_f h1.1, cond_f, ilt_f h1.2, cond_f, cond_t, ix_ok (by omega) (by omega), opt_bind_some, show (0 : Int).toNat = 0 from rfl]
  cases h2 : ieq (k.1.getD 0 zRootKey).1 (-1)
  · rfl
  rw [bnot_t, cond_f, cond_t, decide_eq_true h1.1, cond_t, List.take_length]
  have hd : (k.1.drop 1).length = k.1.length - 1 := by simp
  have := all_loop (step := L_i_ValidSkeleton_1) (fun i => ((false, (k.1.drop 1, (((k.1.drop 1).length : Int), ((i : Int), ())))), ())) (false, ((false, ()), ())) (true, ((false, ()), ())) (fun j => boneOK k (j + 1)) (k.1.drop 1).length
    (fun j h3 r => by
      simp only [L_i_ValidSkeleton_1]
      rw [ilt_nat h3, ix_nat h3, iadd_nat (by omega), opt_bind_some, cond_t, drop_getD, show 1 + j = j + 1 by omega]
      unfold boneOK
      cases hb : t_s_l00In (k.1.getD (j + 1) zRootKey).1 0 (((j + 1 : Nat) : Int) - 1)
      · rw [l00In_F] at hb
        by_cases h5 : (k.1.getD (j + 1) zRootKey).1 < 0
        · rw [ilt_t h5]; rfl
        · rw [ilt_f (by omega), cond_f, ilt_t (by omega)]; rfl
      · rw [l00In_T] at hb
        rw [ilt_f hb.1, cond_f, ilt_f (by omega)]; rfl)
    (fun r => by simp only [L_i_ValidSkeleton_1, ilt_self, cond_f]) (by omega)
  rw [show ((0 : Nat) : Int) = 0 from rfl] at this
  rw [this, allFrom_shift, hd]
  cases allFrom (boneOK k) (0 + 1) (k.1.length - 1) <;> rfl

/-! skins -/
def risesAt (l : List Int) (low high : Int) (i : Nat) : Bool := bif t_s_l00In (l.getD i 0) low high then bif ilt 0 (i : Int) then !(ile (l.getD i 0) (l.getD (i - 1) 0)) else true else false
def rises (l : List Int) (low high : Int) : Bool := allFrom (risesAt l low high) 0 l.length

def skinPt (k : dSkel) (p : dSkinPoint) : Bool := bif t_s_l09Point p then rises p.2.1 0 ((k.1.length : Int) - 1) else false
def isSkin (k : dSkel) (ps : List dSkinPoint) : Bool := bif ile (ps.length : Int) 24 then allFrom (fun j => skinPt k (ps.getD j zSkinPoint)) 0 ps.length else false

end Go.Fw
