/- The reference's functions and the program's compute the same: skeletons and skins. No condition. -/
import Derived.Test.YtobcfldhacdpiaaGreatBEq1
set_option linter.unusedVariables false
set_option linter.unusedSimpArgs false
namespace Go.Fw

/-! skeletons -/
def boneOK (k : dSkel) (i : Nat) : Bool := t_s_l00In (k.1.getD i zRootKey).1 0 ((i : Int) - 1)
def isSkel (k : dSkel) : Bool := bif t_s_l00In (k.1.length : Int) 1 12 then bif ieq (k.1.getD 0 zRootKey).1 (-1) then allFrom (boneOK k) 1 (k.1.length - 1) else false else false

/-! skins -/
def risesAt (l : List Int) (low high : Int) (i : Nat) : Bool := bif t_s_l00In (l.getD i 0) low high then bif ilt 0 (i : Int) then !(ile (l.getD i 0) (l.getD (i - 1) 0)) else true else false
def rises (l : List Int) (low high : Int) : Bool := allFrom (risesAt l low high) 0 l.length

def lastOf (l : List Int) : Nat → Int
  | 0 => -1
  | i + 1 => l.getD i 0
theorem lastOf_zero (l : List Int) : lastOf l 0 = -1 := rfl
theorem lastOf_succ (l : List Int) (i : Nat) : lastOf l (i + 1) = l.getD i 0 := rfl
def risesI (l : List Int) (n : Int) (i : Nat) : Bool := bif ile (l.getD i 0) (lastOf l i) then false else !(ile n (l.getD i 0))

theorem risesI_eq (l : List Int) (n : Int) (h : n < 4611686018427387904) : allFrom (risesI l n) 0 l.length = rises l 0 (n - 1) := by
  unfold rises
  refine allFrom_eq ⟨fun h1 => ?_, fun h1 => ?_⟩
  · intro j
    induction j with
    | zero =>
      intro h2 h3
      have := h1 0 h2 h3
      unfold risesI at this
      rw [lastOf_zero] at this
      unfold risesAt
      cases h5 : ile (l.getD 0 0) (-1)
      · rw [h5, cond_f] at this
        (simp only [ilt_T, ilt_F, ile_T, ile_F, ieq_T, ieq_F, bnot_T, bnot_F, ble_T, ble_F, nz_T, nz_F, nonneg_T, nonneg_F] at h5)
        (simp only [ilt_T, ilt_F, ile_T, ile_F, ieq_T, ieq_F, bnot_T, bnot_F, ble_T, ble_F, nz_T, nz_F, nonneg_T, nonneg_F] at this)
        rw [(l00In_T _ _ _).mpr (by omega), ilt_f (by omega)]; rfl
      · rw [h5] at this; cases this
    | succ j ih =>
      intro h2 h3
      have h4 := ih (by omega) (by omega)
      have := h1 (j + 1) h2 h3
      unfold risesI at this
      rw [lastOf_succ] at this
      unfold risesAt at h4 ⊢
      cases h5 : ile (l.getD (j + 1) 0) (l.getD j 0)
      · rw [h5, cond_f] at this
        (simp only [ilt_T, ilt_F, ile_T, ile_F, ieq_T, ieq_F, bnot_T, bnot_F, ble_T, ble_F, nz_T, nz_F, nonneg_T, nonneg_F] at this)
        have h6 : t_s_l00In (l.getD j 0) 0 (n - 1) = true := by
          cases hx : t_s_l00In (l.getD j 0) 0 (n - 1)
          · rw [hx] at h4; cases h4
          · rfl
        rw [l00In_T] at h6
        have h7 := h5
        (simp only [ilt_T, ilt_F, ile_T, ile_F, ieq_T, ieq_F, bnot_T, bnot_F, ble_T, ble_F, nz_T, nz_F, nonneg_T, nonneg_F] at h7)
        rw [(l00In_T _ _ _).mpr (by omega), ilt_t (by omega), cond_t, cond_t, Nat.add_sub_cancel, h5]; rfl
      · rw [h5] at this; cases this
  · intro j h2 h3
    have h4 := h1 j h2 h3
    unfold risesAt at h4
    cases hx : t_s_l00In (l.getD j 0) 0 (n - 1)
    · rw [hx] at h4; cases h4
    rw [hx, cond_t] at h4
    rw [l00In_T] at hx
    unfold risesI
    cases j with
    | zero =>
      rw [lastOf_zero, ile_f (by omega), cond_f, ile_f (by omega)]; rfl
    | succ j =>
      rw [ilt_t (by omega), cond_t, Nat.add_sub_cancel] at h4
      (simp only [ilt_T, ilt_F, ile_T, ile_F, ieq_T, ieq_F, bnot_T, bnot_F, ble_T, ble_F, nz_T, nz_F, nonneg_T, nonneg_F] at h4)
      rw [lastOf_succ, ile_f (by omega), cond_f, ile_f (by omega)]; rfl

def skinPt (k : dSkel) (p : dSkinPoint) : Bool := bif t_s_l09Point p then rises p.2.1 0 ((k.1.length : Int) - 1) else false
def isSkin (k : dSkel) (ps : List dSkinPoint) : Bool := bif ile (ps.length : Int) 24 then allFrom (fun j => skinPt k (ps.getD j zSkinPoint)) 0 ps.length else false

end Go.Fw
