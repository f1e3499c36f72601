/- The reference's functions and the program's compute the same: runs and rules. No condition. -/
import Derived.Test.YtobcfldhacdpiaaGreatCEq2
set_option linter.unusedVariables false
set_option linter.unusedSimpArgs false
namespace Go.Fw

theorem machOK_T {m : dMachine} (h : machOK m = true) : (1 ≤ m.1.length ∧ m.1.length ≤ 6) ∧ (1 ≤ m.2.1.length ∧ m.2.1.length ≤ 8) ∧ m.2.2.1.length ≤ 16 ∧ (∀ j, j < m.1.length → clipAt m.1 j = true) ∧ (∀ j, j < m.2.1.length → stateAt m j = true) ∧ ∀ j, j < m.2.2.1.length → ruleAt m j = true := by
  unfold machOK clipsOK at h
  simp only [bif_T, l00In_T, ilt_T, ilt_F, reduceCtorEq, and_false, or_false, false_or] at h
  obtain ⟨⟨h1, h2⟩, h3, h4, h5, h6⟩ := h
  exact ⟨by omega, by omega, by omega, fun j hj => allFrom_T h2 j (Nat.zero_le _) (by omega), fun j hj => allFrom_T h5 j (Nat.zero_le _) (by omega), fun j hj => allFrom_T h6 j (Nat.zero_le _) (by omega)⟩

theorem clipOK_T {c : dClip} (h : clipOK c = true) : clipHead c = true ∧ (∀ j, j < c.2.2.1.length → trackOK c j = true) ∧ timesOK (c.2.2.2.1.map fun x => x.1) c.1 = true := by
  unfold clipOK at h
  simp only [bif_T, reduceCtorEq, and_false, or_false] at h
  exact ⟨h.1, fun j hj => allFrom_T h.2.1 j (Nat.zero_le _) (by omega), h.2.2⟩

theorem clipAt_T {cs : List dClip} {j : Nat} (h : clipAt cs j = true) : clipOK (cs.getD j zClip) = true ∧ (cs.getD j zClip).2.2.1.length = (cs.getD 0 zClip).2.2.1.length := by
  unfold clipAt at h
  simp only [bif_T, ieq_T, reduceCtorEq, and_false, or_false] at h
  exact ⟨h.1, by omega⟩

/-- How long a state's clip is. -/
def lenOf (m : dMachine) (st : Nat) : Int := (m.1.getD (m.2.1.getD st zState).1.toNat zClip).1
def timeOK (m : dMachine) (st : Nat) (t : Int) : Bool := bif (m.2.1.getD st zState).2.2.1 then t_s_l00In t 0 (lenOf m st - 1) else t_s_l00In t 0 (lenOf m st)

theorem state_clip {m : dMachine} (h : machOK m = true) {j : Nat} (hj : j < m.2.1.length) : 0 ≤ (m.2.1.getD j zState).1 ∧ (m.2.1.getD j zState).1 < m.1.length := by
  obtain ⟨_, _, _, _, h5, _⟩ := machOK_T h
  have := h5 j hj
  unfold stateAt at this
  simp only [bif_T, l00In_T, reduceCtorEq, and_false, or_false] at this
  omega

theorem lenOf_le {m : dMachine} (h : machOK m = true) {j : Nat} (hj : j < m.2.1.length) : 1 ≤ lenOf m j ∧ lenOf m j ≤ 1000 := by
  obtain ⟨_, _, _, h4, _, _⟩ := machOK_T h
  have h1 := state_clip h hj
  have h2 := h4 (m.2.1.getD j zState).1.toNat (by omega)
  exact (clipHead_T (clipOK_T (clipAt_T h2).1).1).1

theorem c_s_l07Length {m : dMachine} (h : machOK m = true) {st : Int} (h0 : 0 ≤ st) (h1 : st < m.2.1.length) : g_s_l07Length m st = some (lenOf m st.toNat) := by
  have h2 := state_clip h (j := st.toNat) (by omega)
  unfold g_s_l07Length lenOf
  rw [ix_ok h0 h1, opt_bind_some, ix_ok h2.1 h2.2]; rfl
theorem se_Machine_length (m : dMachine) (st : Int) : g_i_Machine_length m st = g_s_l07Length m st := rfl
theorem c_s_l07Time {m : dMachine} (h : machOK m = true) {st : Int} (h0 : 0 ≤ st) (h1 : st < m.2.1.length) (t : Int) : g_s_l07Time m st t = some (timeOK m st.toNat t) := by
  have h2 := lenOf_le h (j := st.toNat) (by omega)
  unfold g_s_l07Time timeOK
  rw [c_s_l07Length h h0 h1, ix_ok h0 h1]
  simp only [opt_bind_some]
  rw [isub_ok (by omega) (by omega)]
  cases (m.2.1.getD st.toNat zState).2.2.1 <;> rfl

theorem c_i_isTime {m : dMachine} (h : machOK m = true) (st t : Int) : g_i_Machine_isTime m st t = some (bif t_s_l00In st 0 ((m.2.1.length : Int) - 1) then timeOK m st.toNat t else false) := by
  unfold g_i_Machine_isTime
  cases hb : t_s_l00In st 0 ((m.2.1.length : Int) - 1)
  · rw [l00In_F] at hb
    by_cases h1 : st < 0
    · rw [ilt_t h1]; rfl
    · rw [ilt_f (by omega), cond_f, ile_t (by omega)]; rfl
  rw [l00In_T] at hb
  rw [ilt_f hb.1, cond_f, ile_f (by omega), cond_f, cond_t, se_Machine_length, c_s_l07Length h hb.1 (by omega), ix_ok hb.1 (by omega)]
  simp only [opt_bind_some]
  unfold timeOK
  cases h1 : ilt t 0
  rotate_left
  · (simp only [ilt_T, ilt_F, ile_T, ile_F, ieq_T, ieq_F, bnot_T, bnot_F, ble_T, ble_F, nz_T, nz_F, nonneg_T, nonneg_F] at h1)
    rw [(l00In_F _ _ _).mpr (by omega), (l00In_F _ _ _).mpr (by omega), cond_same]; rfl
  (simp only [ilt_T, ilt_F, ile_T, ile_F, ieq_T, ieq_F, bnot_T, bnot_F, ble_T, ble_F, nz_T, nz_F, nonneg_T, nonneg_F] at h1)
  rw [cond_f]
  cases h2 : ilt t (lenOf m st.toNat)
  rotate_left
  · (simp only [ilt_T, ilt_F, ile_T, ile_F, ieq_T, ieq_F, bnot_T, bnot_F, ble_T, ble_F, nz_T, nz_F, nonneg_T, nonneg_F] at h2)
    rw [(l00In_T _ _ _).mpr (by omega), (l00In_T _ _ _).mpr (by omega), cond_same]; rfl
  (simp only [ilt_T, ilt_F, ile_T, ile_F, ieq_T, ieq_F, bnot_T, bnot_F, ble_T, ble_F, nz_T, nz_F, nonneg_T, nonneg_F] at h2)
  rw [cond_f, (l00In_F t 0 (lenOf m st.toNat - 1)).mpr (by omega)]
  by_cases h3 : t = lenOf m st.toNat
  · rw [ieq_t h3, cond_t, (l00In_T _ _ _).mpr (by omega)]
    cases (m.2.1.getD st.toNat zState).2.2.1 <;> rfl
  · rw [ieq_f h3, cond_f, (l00In_F _ _ _).mpr (by omega), cond_same]

def runOK (m : dMachine) (r : dRun) : Bool :=
  bif t_s_l00In r.1 0 ((m.2.1.length : Int) - 1) then bif timeOK m r.1.toNat r.2.1 then
    bif ieq r.2.2.1 (-1) then bif ieq r.2.2.2.1 0 then bif ieq r.2.2.2.2.1 0 then ieq r.2.2.2.2.2.1 0 else false else false
    else bif t_s_l00In r.2.2.1 0 ((m.2.1.length : Int) - 1) then bif timeOK m r.2.2.1.toNat r.2.2.2.1 then bif t_s_l00In r.2.2.2.2.1 1 100 then t_s_l00In r.2.2.2.2.2.1 0 (r.2.2.2.2.1 - 1) else false else false else false
  else false else false

theorem c_s_l07Run {m : dMachine} (h : machOK m = true) (r : dRun) : g_s_l07Run m r = some (runOK m r) := by
  have hm := machOK_T h
  unfold g_s_l07Run runOK
  rw [isub_ok (b := 1) (by omega) (by omega)]
  cases hb : t_s_l00In r.1 0 ((m.2.1.length : Int) - 1)
  · rfl
  rw [l00In_T] at hb
  rw [c_s_l07Time h hb.1 (by omega)]
  simp only [bnot_t, cond_f, cond_t, opt_bind_some]
  cases timeOK m r.1.toNat r.2.1
  · rfl
  simp only [bnot_t, cond_f, cond_t]
  cases ieq r.2.2.1 (-1)
  · cases hc : t_s_l00In r.2.2.1 0 ((m.2.1.length : Int) - 1)
    · rfl
    rw [l00In_T] at hc
    rw [c_s_l07Time h hc.1 (by omega)]
    simp only [cond_f, cond_t, opt_bind_some]
    cases timeOK m r.2.2.1.toNat r.2.2.2.1
    · rfl
    cases hd : t_s_l00In r.2.2.2.2.1 1 100
    · rfl
    rw [l00In_T] at hd
    rw [isub_ok (by omega) (by omega)]; rfl
  · cases ieq r.2.2.2.1 0 <;> cases ieq r.2.2.2.2.1 0 <;> rfl

theorem c_i_IsRun {m : dMachine} (hz : z_Machine m ≤ 1048576) (r : dRun) : g_i_IsRun m r = some (bif machOK m then runOK m r else false) := by
  unfold g_i_IsRun
  rw [c_i_ValidMachine hz, opt_bind_some]
  cases h : machOK m
  · rfl
  have hm := machOK_T h
  unfold runOK
  rw [c_i_isTime h, c_i_isTime h]
  simp only [bnot_t, cond_f, cond_t, opt_bind_some]
  cases hb : t_s_l00In r.1 0 ((m.2.1.length : Int) - 1)
  · rfl
  simp only [cond_t]
  cases timeOK m r.1.toNat r.2.1
  · rfl
  simp only [bnot_t, cond_f, cond_t]
  cases ieq r.2.2.1 (-1)
  · cases hc : t_s_l00In r.2.2.1 0 ((m.2.1.length : Int) - 1)
    · rfl
    simp only [cond_f, cond_t]
    cases timeOK m r.2.2.1.toNat r.2.2.2.1
    · rfl
    have e1 : t_s_l00In r.2.2.2.2.1 1 100 = bif ile 1 r.2.2.2.2.1 then ile r.2.2.2.2.1 100 else false := rfl
    have e2 : t_s_l00In r.2.2.2.2.2.1 0 (r.2.2.2.2.1 - 1) = bif ile 0 r.2.2.2.2.2.1 then ilt r.2.2.2.2.2.1 r.2.2.2.2.1 else false := by
      rw [Bool.eq_iff_iff]
      simp only [bif_T, bif_F, ilt_T, ilt_F, ile_T, ile_F, l00In_T, l00In_F, reduceCtorEq, and_true, and_false, or_false, false_or]
      omega
    rw [e1, e2]
    cases ile 1 r.2.2.2.2.1 <;> cases ile r.2.2.2.2.1 100 <;> cases ile 0 r.2.2.2.2.2.1 <;> rfl
  · cases ieq r.2.2.2.1 0 <;> cases ieq r.2.2.2.2.1 0 <;> rfl

/-! rules -/
theorem se_holds (m : dMachine) (x : dRule) (r : dRun) (l : List Nat) : g_i_Machine_holds m x r l = g_s_l07Holds m r x l := rfl

theorem rt_holds {m : dMachine} (h : machOK m = true) {r : dRun} (hr : runOK m r = true) {l : List Nat} (hl : l.length = 4) {j : Nat} (hj : j < m.2.2.1.length) : Ret (g_s_l07Holds m r (m.2.2.1.getD j zRule) l) fun _ => True := by
  obtain ⟨h1, h2, h3, h4, h5, h6⟩ := machOK_T h
  have hx := h6 j hj
  unfold ruleAt at hx
  generalize m.2.2.1.getD j zRule = x at *
  unfold ruleOK at hx
  simp only [bif_T, l00In_T, ieq_F, reduceCtorEq, and_false, or_false, false_or] at hx
  unfold runOK at hr
  simp only [bif_T, l00In_T, reduceCtorEq, and_false, or_false] at hr
  obtain ⟨hr1, _⟩ := hr
  have hlen : Ret (g_s_l07Length m r.1) fun _ => True := ⟨_, c_s_l07Length h hr1.1 (by omega), trivial⟩
  have hin : ∀ f : Nat → Option Bool, (∀ j, Ret (f j) fun _ => True) → Ret (Option.bind (ix x.2.2.2.1 l.length) f) fun _ => True := fun f hf => Ret.ix (by omega) (by omega) (hf _)
  have body : Ret (bif ieq x.2.1 r.1 then some false else bif ieq x.2.2.1 1 then Option.bind (ix x.2.2.2.1 l.length) fun j1 => some (fgt .f32 (l.getD j1 0) x.2.2.2.2.1) else bif ieq x.2.2.1 2 then Option.bind (ix x.2.2.2.1 l.length) fun j2 => some (flt .f32 (l.getD j2 0) x.2.2.2.2.1) else bif ieq x.2.2.1 3 then Option.bind (g_s_l07Length m r.1) fun y3 => some (ieq r.2.1 y3) else some true) fun _ => True :=
    Ret.cond (fun _ => Ret.pure trivial) fun _ => Ret.cond (fun _ => hin _ fun _ => Ret.pure trivial) fun _ => Ret.cond (fun _ => hin _ fun _ => Ret.pure trivial) fun _ => Ret.cond (fun _ => Ret.bind' hlen fun _ _ _ => Ret.pure trivial) fun _ => Ret.pure trivial
  unfold g_s_l07Holds
  exact Ret.cond (fun _ => Ret.pure trivial) fun _ => Ret.cond (fun _ => Ret.cond (fun _ => Ret.pure trivial) fun _ => body) fun _ => body

theorem se_First_loop (m : dMachine) (r : dRun) (l : List Nat) : ∀ (n : Nat) (t6 t12 t13 : Int), iter L_slices_IndexFunc_i_Rule_i_Rule_v2_1 n ((m.2.2.1, ((m, (r, (l, ()))), (t6, (t12, (t13, ()))))), ()) = iter L_s_l07First_1 n ((m, (r, (l, (t6, (t12, (t13, ())))))), ())
  | 0, _, _, _ => rfl
  | n + 1, t6, t12, t13 => by
    have ih := se_First_loop m r l n
    rw [iter_succ, iter_succ]
    simp only [L_slices_IndexFunc_i_Rule_i_Rule_v2_1, L_s_l07First_1, g_i_Machine_first_1, se_holds, opt_bind_pure, ih]
theorem se_First (m : dMachine) (r : dRun) (l : List Nat) : g_i_Machine_first m r l = g_s_l07First m r l := by
  unfold g_i_Machine_first g_slices_IndexFunc_i_Rule_i_Rule_v2 g_s_l07First
  rw [opt_bind_pure, se_First_loop]
theorem rt_First {m : dMachine} (h : machOK m = true) {r : dRun} (hr : runOK m r = true) {l : List Nat} (hl : l.length = 4) : Ret (g_s_l07First m r l) fun y => -1 ≤ y ∧ y < m.2.2.1.length := by
  have hm := machOK_T h
  unfold g_s_l07First
  refine Ret.bind ((Ret.iter (fun n d => ∃ i : Nat, i ≤ m.2.2.1.length ∧ n = m.2.2.1.length - i ∧ d = ((m, (r, (l, (0, ((m.2.2.1.length : Int), ((i : Int), ())))))), ())) (fun o => o.1 = true → 0 ≤ o.2.1.1 ∧ o.2.1.1 < (m.2.2.1.length : Int)) ?_ fuel m.2.2.1.length _ ⟨0, by omega, by omega, rfl⟩ (by unfold fuel; omega)).mono ?_)
  · rintro f n d ⟨i, hi, hn, rfl⟩ ih
    simp only [L_s_l07First_1]
    refine Ret.cond (fun hc => ?_) fun _ => Ret.pure nofun
    (simp only [ilt_T, ilt_F, ile_T, ile_F, ieq_T, ieq_F, bnot_T, bnot_F, ble_T, ble_F, nz_T, nz_F, nonneg_T, nonneg_F] at hc)
    rw [ix_nat (show i < m.2.2.1.length by omega), iadd_nat (by omega), opt_bind_some]
    refine Ret.bind' (rt_holds h hr hl (by omega)) fun y _ _ => Ret.cond (fun _ => Ret.pure fun _ => ⟨by dsimp only; omega, by dsimp only; omega⟩) fun _ => ih (n - 1) _ (by omega) ⟨i + 1, by omega, by omega, rfl⟩
  · rintro ⟨b, ⟨o, ⟨⟩⟩, ⟨⟩⟩ ho
    cases b
    · exact Ret.pure ⟨by omega, by omega⟩
    · have := ho rfl
      exact Ret.pure ⟨by dsimp only at *; omega, by dsimp only at *; omega⟩

end Go.Fw
