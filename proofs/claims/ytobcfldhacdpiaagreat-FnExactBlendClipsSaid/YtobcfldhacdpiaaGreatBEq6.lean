/- The reference's functions and the program's compute the same: skins that are assigned, and linear skins. No condition. -/
import Derived.Test.YtobcfldhacdpiaaGreatBEq5
set_option linter.unusedVariables false
set_option linter.unusedSimpArgs false
namespace Go.Fw

/-! the nearest bone -/
/-! skins -/
theorem isSkin_T {k : dSkel} {ps : List dSkinPoint} (h : isSkin k ps = true) : ps.length ≤ 24 ∧ ∀ j, j < ps.length → t_s_l09Point (ps.getD j zSkinPoint) = true ∧ ∀ i, i < (ps.getD j zSkinPoint).2.1.length → 0 ≤ (ps.getD j zSkinPoint).2.1.getD i 0 ∧ (ps.getD j zSkinPoint).2.1.getD i 0 < k.1.length := by
  unfold isSkin at h
  cases h1 : ile (ps.length : Int) 24
  · rw [h1] at h; cases h
  rw [h1, cond_t] at h
  (simp only [ilt_T, ilt_F, ile_T, ile_F, ieq_T, ieq_F, bnot_T, bnot_F, ble_T, ble_F, nz_T, nz_F, nonneg_T, nonneg_F] at h1)
  refine ⟨by omega, fun j hj => ?_⟩
  have h2 := allFrom_T h j (Nat.zero_le _) (by omega)
  unfold skinPt at h2
  cases h3 : t_s_l09Point (ps.getD j zSkinPoint)
  · rw [h3] at h2; cases h2
  rw [h3, cond_t] at h2
  refine ⟨rfl, fun i hi => ?_⟩
  unfold rises at h2
  have h4 := allFrom_T h2 i (Nat.zero_le _) (by omega)
  unfold risesAt at h4
  cases h5 : t_s_l00In ((ps.getD j zSkinPoint).2.1.getD i 0) 0 ((k.1.length : Int) - 1)
  · rw [h5] at h4; cases h4
  rw [l00In_T] at h5
  omega

structure PtOK (n : Nat) (p : dSkinPoint) : Prop where
  few : 1 ≤ p.2.1.length ∧ p.2.1.length ≤ 4
  same : p.2.2.1.length = p.2.1.length
  bones : ∀ i, i < p.2.1.length → 0 ≤ p.2.1.getD i 0 ∧ p.2.1.getD i 0 < (n : Int)
theorem PtOK.of {k : dSkel} {ps : List dSkinPoint} (h : isSkin k ps = true) {j : Nat} (hj : j < ps.length) : PtOK k.1.length (ps.getD j zSkinPoint) := by
  obtain ⟨h1, h2⟩ := (isSkin_T h).2 j hj
  have := point_T h1
  exact ⟨this.1, this.2, h2⟩
theorem PtOK.ix {n m : Nat} {p : dSkinPoint} (h : PtOK n p) (hm : m = n) {i : Nat} (hi : i < p.2.1.length) : Go.Fw.ix (p.2.1.getD i 0) m = some (p.2.1.getD i 0).toNat := by
  subst hm
  have := h.bones i hi
  exact ix_ok this.1 this.2

/-! linear skins -/
end Go.Fw
