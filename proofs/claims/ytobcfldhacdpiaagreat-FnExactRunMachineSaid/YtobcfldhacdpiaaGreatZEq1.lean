/- The reference's functions and the program's compute the same: steps of runs. No condition. -/
import Derived.Test.YtobcfldhacdpiaaGreatCEq3
import Derived.Test.YtobcfldhacdpiaaGreatZThy
set_option linter.unusedVariables false
set_option linter.unusedSimpArgs false
namespace Go.Fw

theorem timeOK_T {m : dMachine} (h : machOK m = true) {st : Nat} (hs : st < m.2.1.length) {t : Int} (ht : timeOK m st t = true) : 0 ≤ t ∧ t ≤ lenOf m st := by
  have h2 := lenOf_le h hs
  unfold timeOK at ht
  cases hl : (m.2.1.getD st zState).2.2.1 <;> rw [hl] at ht
  · rw [cond_f, l00In_T] at ht; omega
  · rw [cond_t, l00In_T] at ht; omega
theorem speed_le {m : dMachine} (h : machOK m = true) {st : Nat} (hs : st < m.2.1.length) : 1 ≤ (m.2.1.getD st zState).2.1 ∧ (m.2.1.getD st zState).2.1 ≤ 8 := by
  obtain ⟨_, _, _, _, h5, _⟩ := machOK_T h
  have := h5 st hs
  unfold stateAt at this
  simp only [bif_T, l00In_T, reduceCtorEq, and_false, or_false] at this
  omega

/-- The time of a state behind a step. -/
def onOf (m : dMachine) (st : Nat) (t : Int) : Int := bif (m.2.1.getD st zState).2.2.1 then (t + (m.2.1.getD st zState).2.1) % lenOf m st else bif ilt (t + (m.2.1.getD st zState).2.1) (lenOf m st) then t + (m.2.1.getD st zState).2.1 else lenOf m st

theorem onOf_time {m : dMachine} (h : machOK m = true) {st : Nat} (hs : st < m.2.1.length) {t : Int} (ht : 0 ≤ t) : timeOK m st (onOf m st t) = true := by
  have h2 := lenOf_le h hs
  have h3 := speed_le h hs
  unfold timeOK onOf
  cases (m.2.1.getD st zState).2.2.1
  · rw [cond_f, cond_f, l00In_T]
    cases h4 : ilt (t + (m.2.1.getD st zState).2.1) (lenOf m st)
    · rw [cond_f]; omega
    · (simp only [ilt_T, ilt_F, ile_T, ile_F, ieq_T, ieq_F, bnot_T, bnot_F, ble_T, ble_F, nz_T, nz_F, nonneg_T, nonneg_F] at h4)
      rw [cond_t]; omega
  · rw [cond_t, cond_t, l00In_T]
    have h4 := Int.emod_nonneg (t + (m.2.1.getD st zState).2.1) (show lenOf m st ≠ 0 by omega)
    have h5 := Int.emod_lt_of_pos (t + (m.2.1.getD st zState).2.1) (show 0 < lenOf m st by omega)
    omega

theorem c_s_l07On {m : dMachine} (h : machOK m = true) {st : Int} (h0 : 0 ≤ st) (h1 : st < m.2.1.length) {t : Int} (ht : 0 ≤ t) (ht' : t ≤ 1000) : g_s_l07On m st t = some (onOf m st.toNat t) := by
  have h2 := lenOf_le h (j := st.toNat) (by omega)
  have h3 := speed_le h (st := st.toNat) (by omega)
  unfold g_s_l07On onOf
  rw [c_s_l07Length h h0 h1, ix_ok h0 h1]
  simp only [opt_bind_some]
  rw [iadd_ok (by omega) (by omega), nz_t (by omega), irem_nn (by omega)]
  cases (m.2.1.getD st.toNat zState).2.2.1
  · rfl
  · rfl
theorem c_i_later {m : dMachine} (h : machOK m = true) {st : Int} (h0 : 0 ≤ st) (h1 : st < m.2.1.length) {t : Int} (ht : 0 ≤ t) (ht' : t ≤ 1000) : g_i_Machine_later m st t = some (onOf m st.toNat t) := by
  have h2 := lenOf_le h (j := st.toNat) (by omega)
  have h3 := speed_le h (st := st.toNat) (by omega)
  unfold g_i_Machine_later onOf
  rw [se_Machine_length, c_s_l07Length h h0 h1, ix_ok h0 h1]
  simp only [opt_bind_some]
  rw [iadd_ok (by omega) (by omega), nz_t (by omega), irem_nn (by omega)]
  cases (m.2.1.getD st.toNat zState).2.2.1
  · rw [cond_f, cond_f]
    by_cases h4 : t + (m.2.1.getD st.toNat zState).2.1 < lenOf m st.toNat
    · rw [ilt_f (by omega), ilt_t h4]; rfl
    · rw [ilt_f (show lenOf m st.toNat ≤ t + (m.2.1.getD st.toNat zState).2.1 by omega), cond_f]
      by_cases h5 : lenOf m st.toNat < t + (m.2.1.getD st.toNat zState).2.1
      · rw [ilt_t h5]; rfl
      · rw [ilt_f (by omega), cond_f, show t + (m.2.1.getD st.toNat zState).2.1 = lenOf m st.toNat by omega]
  · rfl

/-! runs -/
structure RunT (m : dMachine) (r : dRun) : Prop where
  state : 0 ≤ r.1 ∧ r.1 < m.2.1.length
  time : timeOK m r.1.toNat r.2.1 = true
  rest : (r.2.2.1 = -1 ∧ r.2.2.2.1 = 0 ∧ r.2.2.2.2.1 = 0 ∧ r.2.2.2.2.2.1 = 0) ∨
    ((0 ≤ r.2.2.1 ∧ r.2.2.1 < m.2.1.length) ∧ timeOK m r.2.2.1.toNat r.2.2.2.1 = true ∧ (1 ≤ r.2.2.2.2.1 ∧ r.2.2.2.2.1 ≤ 100) ∧ 0 ≤ r.2.2.2.2.2.1 ∧ r.2.2.2.2.2.1 < r.2.2.2.2.1)
theorem runOK_iff {m : dMachine} {r : dRun} : runOK m r = true ↔ RunT m r := by
  unfold runOK
  constructor
  · intro h
    simp only [bif_T, l00In_T, ieq_T, ieq_F, reduceCtorEq, and_false, or_false] at h
    obtain ⟨h1, h2, h3⟩ := h
    exact ⟨by omega, h2, h3.imp (fun h => by omega) fun h => ⟨by omega, h.2.2.1, by omega, by omega, by omega⟩⟩
  · rintro ⟨h1, h2, h3⟩
    simp only [bif_T, l00In_T, ieq_T, ieq_F, reduceCtorEq, and_false, or_false]
    refine ⟨by omega, h2, h3.imp (fun h => by omega) fun h => ⟨by omega, by omega, h.2.1, by omega, by omega⟩⟩
theorem RunT.t0 {m : dMachine} (h : machOK m = true) {r : dRun} (hr : RunT m r) : 0 ≤ r.2.1 ∧ r.2.1 ≤ 1000 := by
  have h1 := hr.state
  have h2 := timeOK_T h (st := r.1.toNat) (by omega) hr.time
  have h3 := lenOf_le h (j := r.1.toNat) (by omega)
  omega

def endR : Int × Int × Int × Int × Unit := (-1, (0, (0, (0, ()))))
/-- The run behind a step, where y is the first rule that holds. -/
def stepV (m : dMachine) (r : dRun) (y : Int) : dRun :=
  bif ile 0 y then
    bif ieq (m.2.2.1.getD y.toNat zRule).2.2.2.2.2.1 0 then ((m.2.2.1.getD y.toNat zRule).2.1, (onOf m (m.2.2.1.getD y.toNat zRule).2.1.toNat 0, endR))
    else bif ieq 1 (m.2.2.1.getD y.toNat zRule).2.2.2.2.2.1 then ((m.2.2.1.getD y.toNat zRule).2.1, (onOf m (m.2.2.1.getD y.toNat zRule).2.1.toNat 0, endR))
    else ((m.2.2.1.getD y.toNat zRule).2.1, (onOf m (m.2.2.1.getD y.toNat zRule).2.1.toNat 0, (r.1, (onOf m r.1.toNat r.2.1, ((m.2.2.1.getD y.toNat zRule).2.2.2.2.2.1, (1, ()))))))
  else bif ile 0 r.2.2.1 then
    bif ieq (r.2.2.2.2.2.1 + 1) r.2.2.2.2.1 then (r.1, (onOf m r.1.toNat r.2.1, endR)) else (r.1, (onOf m r.1.toNat r.2.1, (r.2.2.1, (onOf m r.2.2.1.toNat r.2.2.2.1, (r.2.2.2.2.1, (r.2.2.2.2.2.1 + 1, ()))))))
  else (r.1, (onOf m r.1.toNat r.2.1, r.2.2))

theorem rule_T {m : dMachine} (h : machOK m = true) {y : Int} (h0 : 0 ≤ y) (h1 : y < m.2.2.1.length) : (0 ≤ (m.2.2.1.getD y.toNat zRule).2.1 ∧ (m.2.2.1.getD y.toNat zRule).2.1 < m.2.1.length) ∧ 0 ≤ (m.2.2.1.getD y.toNat zRule).2.2.2.2.2.1 ∧ (m.2.2.1.getD y.toNat zRule).2.2.2.2.2.1 ≤ 100 := by
  obtain ⟨_, _, _, _, _, h6⟩ := machOK_T h
  have hx := h6 y.toNat (by omega)
  unfold ruleAt ruleOK at hx
  simp only [bif_T, l00In_T, ieq_F, reduceCtorEq, and_false, or_false, false_or] at hx
  omega

theorem stepV_run {m : dMachine} (h : machOK m = true) {r : dRun} (hr : RunT m r) {y : Int} (h1 : y < m.2.2.1.length) : RunT m (stepV m r y) := by
  have ht := hr.t0 h
  have hs := hr.state
  unfold stepV
  cases h2 : ile 0 y
  · rw [cond_f]
    cases h3 : ile 0 r.2.2.1
    · (simp only [ilt_T, ilt_F, ile_T, ile_F, ieq_T, ieq_F, bnot_T, bnot_F, ble_T, ble_F, nz_T, nz_F, nonneg_T, nonneg_F] at h3)
      rw [cond_f]
      exact ⟨hs, onOf_time h (by omega) ht.1, hr.rest⟩
    · (simp only [ilt_T, ilt_F, ile_T, ile_F, ieq_T, ieq_F, bnot_T, bnot_F, ble_T, ble_F, nz_T, nz_F, nonneg_T, nonneg_F] at h3)
      rw [cond_t]
      obtain ⟨h4, h5, h6, h7⟩ := hr.rest.resolve_left (by omega)
      have h8 := timeOK_T h (st := r.2.2.1.toNat) (by omega) h5
      cases h9 : ieq (r.2.2.2.2.2.1 + 1) r.2.2.2.2.1
      · (simp only [ilt_T, ilt_F, ile_T, ile_F, ieq_T, ieq_F, bnot_T, bnot_F, ble_T, ble_F, nz_T, nz_F, nonneg_T, nonneg_F] at h9)
        rw [cond_f]
        exact ⟨hs, onOf_time h (by omega) ht.1, .inr ⟨h4, onOf_time (st := r.2.2.1.toNat) h (by omega) h8.1, h6, by show 0 ≤ r.2.2.2.2.2.1 + 1; omega, by show r.2.2.2.2.2.1 + 1 < r.2.2.2.2.1; omega⟩⟩
      · rw [cond_t]
        exact ⟨hs, onOf_time h (by omega) ht.1, .inl ⟨rfl, rfl, rfl, rfl⟩⟩
  · (simp only [ilt_T, ilt_F, ile_T, ile_F, ieq_T, ieq_F, bnot_T, bnot_F, ble_T, ble_F, nz_T, nz_F, nonneg_T, nonneg_F] at h2)
    rw [cond_t]
    obtain ⟨h3, h4⟩ := rule_T h h2 h1
    cases h5 : ieq (m.2.2.1.getD y.toNat zRule).2.2.2.2.2.1 0
    · rw [cond_f]
      (simp only [ilt_T, ilt_F, ile_T, ile_F, ieq_T, ieq_F, bnot_T, bnot_F, ble_T, ble_F, nz_T, nz_F, nonneg_T, nonneg_F] at h5)
      cases h6 : ieq 1 (m.2.2.1.getD y.toNat zRule).2.2.2.2.2.1
      · (simp only [ilt_T, ilt_F, ile_T, ile_F, ieq_T, ieq_F, bnot_T, bnot_F, ble_T, ble_F, nz_T, nz_F, nonneg_T, nonneg_F] at h6)
        rw [cond_f]
        exact ⟨h3, onOf_time h (by omega) (Int.le_refl 0), .inr ⟨hs, onOf_time (st := r.1.toNat) h (by omega) ht.1, by show 1 ≤ (m.2.2.1.getD y.toNat zRule).2.2.2.2.2.1 ∧ (m.2.2.1.getD y.toNat zRule).2.2.2.2.2.1 ≤ 100; omega, by show (0 : Int) ≤ 1; omega, by show 1 < (m.2.2.1.getD y.toNat zRule).2.2.2.2.2.1; omega⟩⟩
      · rw [cond_t]
        exact ⟨h3, onOf_time h (by omega) (Int.le_refl 0), .inl ⟨rfl, rfl, rfl, rfl⟩⟩
    · rw [cond_t]
      exact ⟨h3, onOf_time h (by omega) (Int.le_refl 0), .inl ⟨rfl, rfl, rfl, rfl⟩⟩

theorem c_s_l07Step {m : dMachine} (h : machOK m = true) {r : dRun} (hr : RunT m r) {l : List Nat} {y : Int} (hy : g_s_l07First m r l = some y) (h1 : y < m.2.2.1.length) : g_s_l07Step m r l = some (stepV m r y) := by
  have ht := hr.t0 h
  have hs := hr.state
  unfold g_s_l07Step stepV
  rw [hy]
  simp only [opt_bind_some]
  cases h2 : ile 0 y
  · rw [cond_f, cond_f, c_s_l07On h hs.1 hs.2 ht.1 ht.2, opt_bind_some]
    cases h3 : ile 0 r.2.2.1
    · rfl
    · (simp only [ilt_T, ilt_F, ile_T, ile_F, ieq_T, ieq_F, bnot_T, bnot_F, ble_T, ble_F, nz_T, nz_F, nonneg_T, nonneg_F] at h3)
      rw [cond_t, cond_t]
      obtain ⟨h4, h5, h6, h7⟩ := hr.rest.resolve_left (by omega)
      have h8 := timeOK_T h (st := r.2.2.1.toNat) (by omega) h5
      have h9 := lenOf_le h (j := r.2.2.1.toNat) (by omega)
      rw [c_s_l07On h h4.1 h4.2 h8.1 (by omega), opt_bind_some, iadd_ok (by omega) (by omega)]
      cases ieq (r.2.2.2.2.2.1 + 1) r.2.2.2.2.1 <;> rfl
  · (simp only [ilt_T, ilt_F, ile_T, ile_F, ieq_T, ieq_F, bnot_T, bnot_F, ble_T, ble_F, nz_T, nz_F, nonneg_T, nonneg_F] at h2)
    rw [cond_t, cond_t, ix_ok h2 h1, opt_bind_some]
    obtain ⟨h3, h4⟩ := rule_T h h2 h1
    generalize m.2.2.1.getD y.toNat zRule = x at *
    have e5 : t_s_l07Start x.2.1 = (x.2.1, (0, (-1, (0, (0, (0, ())))))) := rfl
    rw [e5]
    dsimp only
    cases h5 : ieq x.2.2.2.2.2.1 0
    · rw [cond_f, cond_f, c_s_l07On h h3.1 h3.2 (Int.le_refl 0) (by omega), opt_bind_some, ile_t hs.1, cond_t, c_s_l07On h hs.1 hs.2 ht.1 ht.2, opt_bind_some]
      cases ieq 1 x.2.2.2.2.2.1 <;> rfl
    · rw [cond_t, cond_t, c_s_l07On h h3.1 h3.2 (Int.le_refl 0) (by omega), opt_bind_some, ile_f (by omega), cond_f]
      rfl

theorem c_i_step {m : dMachine} (h : machOK m = true) {r : dRun} (hr : RunT m r) {l : List Nat} {y : Int} (hy : g_s_l07First m r l = some y) (h1 : y < m.2.2.1.length) : g_i_Machine_step m r l = some (stepV m r y) := by
  have ht := hr.t0 h
  have hs := hr.state
  unfold g_i_Machine_step stepV
  rw [se_First, hy]
  simp only [opt_bind_some]
  cases h2 : ile 0 y
  · rw [cond_f, cond_f, c_i_later h hs.1 hs.2 ht.1 ht.2, opt_bind_some]
    by_cases h3 : 0 ≤ r.2.2.1
    · rw [ilt_f h3, ile_t h3, cond_f, cond_t]
      obtain ⟨h4, h5, h6, h7⟩ := hr.rest.resolve_left (by omega)
      have h8 := timeOK_T h (st := r.2.2.1.toNat) (by omega) h5
      have h9 := lenOf_le h (j := r.2.2.1.toNat) (by omega)
      rw [c_i_later h h4.1 h4.2 h8.1 (by omega), opt_bind_some, iadd_ok (by omega) (by omega)]
      cases ieq (r.2.2.2.2.2.1 + 1) r.2.2.2.2.1 <;> rfl
    · rw [ilt_t (by omega), ile_f (by omega)]; rfl
  · (simp only [ilt_T, ilt_F, ile_T, ile_F, ieq_T, ieq_F, bnot_T, bnot_F, ble_T, ble_F, nz_T, nz_F, nonneg_T, nonneg_F] at h2)
    rw [cond_t, cond_t, ix_ok h2 h1, opt_bind_some]
    obtain ⟨h3, h4⟩ := rule_T h h2 h1
    generalize m.2.2.1.getD y.toNat zRule = x at *
    rw [c_i_later h h3.1 h3.2 (Int.le_refl 0) (by omega)]
    by_cases h5 : x.2.2.2.2.2.1 = 0
    · rw [ieq_t h5, ilt_f (by omega)]; rfl
    · rw [ieq_f h5, ilt_t (by omega), cond_t, cond_f, opt_bind_some, ilt_f hs.1, cond_f, c_i_later h hs.1 hs.2 ht.1 ht.2, opt_bind_some]
      cases ieq 1 x.2.2.2.2.2.1 <;> rfl

end Go.Fw
