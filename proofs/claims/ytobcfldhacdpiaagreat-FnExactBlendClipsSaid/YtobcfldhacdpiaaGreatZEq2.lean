/- The reference's functions and the program's compute the same: samples of clips. No condition. -/
import Derived.Test.YtobcfldhacdpiaaGreatZEq1
import Derived.Test.YtobcfldhacdpiaaGreatBEq7
import Derived.Test.YtobcfldhacdpiaaGreatAEq4
set_option linter.unusedVariables false
set_option linter.unusedSimpArgs false
namespace Go.Fw

/-! where a time lies -/
structure SIx (n : Nat) (tm : Nat → Int) (a : Int) (s : Nat) : Prop where
  lt : s < n
  le : ∀ j, 1 ≤ j → j ≤ s → tm j ≤ a
  nx : s + 1 < n → a < tm (s + 1)
structure IIx (n : Nat) (tm : Nat → Int) (a : Int) (i : Nat) : Prop where
  le : i ≤ n
  all : ∀ j, j < i → tm j ≤ a
  nx : i < n → a < tm i
theorem ix_same {n : Nat} {tm : Nat → Int} {a : Int} {s i : Nat} (hr : ∀ j, j + 1 < n → tm j < tm (j + 1)) (hs : SIx n tm a s) (hi : IIx n tm a i) : (i = 0 ∧ s = 0 ∧ a < tm 0) ∨ (i = s + 1 ∧ tm s ≤ a) := by
  have hsl := hs.lt
  rcases Nat.eq_zero_or_pos i with rfl | h0
  · left
    have h1 := hi.nx (by omega)
    refine ⟨rfl, ?_, h1⟩
    rcases Nat.eq_zero_or_pos s with h2 | h2
    · exact h2
    · have h3 := hs.le 1 (Nat.le_refl 1) (by omega)
      have h4 := hr 0 (by omega)
      rw [Nat.zero_add] at h4
      omega
  · right
    have hil := hi.le
    have h1 : i = s + 1 := by
      rcases Nat.lt_trichotomy i (s + 1) with h | h | h
      · have h2 := hs.le i (by omega) (by omega)
        have h3 := hi.nx (by omega)
        omega
      · exact h
      · have h2 := hi.all (s + 1) h
        have h3 := hs.nx (by omega)
        omega
    exact ⟨h1, hi.all s (by omega)⟩

theorem times_up {l : List Int} {n : Int} (h : timesOK l n = true) : (1 ≤ l.length ∧ l.length ≤ 12) ∧ ∀ j, j + 1 < l.length → l.getD j 0 < l.getD (j + 1) 0 := by
  unfold timesOK at h
  cases hr : rises l 0 n
  · rw [hr] at h; cases h
  rw [hr, cond_t, l00In_T] at h
  refine ⟨by omega, fun j hj => ?_⟩
  unfold rises at hr
  have h1 := allFrom_T hr (j + 1) (Nat.zero_le _) (by omega)
  unfold risesAt at h1
  cases h2 : t_s_l00In (l.getD (j + 1) 0) 0 n
  · rw [h2] at h1; cases h1
  rw [h2, cond_t, ilt_t (by omega), cond_t, bnot_T, ile_F, Nat.add_sub_cancel] at h1
  exact h1

/-! the reference's search -/
def shareF (x a y kind : Int) : Nat := bif ieq kind 2 then fmul .f32 (fmul .f32 (t_i_share x a y) (t_i_share x a y)) (fsub .f32 1077936128 (fmul .f32 1073741824 (t_i_share x a y))) else t_i_share x a y
def insB (n : Nat) (tm : Nat → Int) (s : Nat) (a kind : Int) : Bool := bif !(ieq kind 0) then bif ilt ((s + 1 : Nat) : Int) (n : Int) then ilt (tm s) a else false else false

theorem rt_find {ts : List Int} (a kind : Int) (h1 : 1 ≤ ts.length) (h2 : ts.length ≤ 12) : Ret (iter L_s_l05Find_1 fuel ((ts, (a, (kind, (0, ())))), ())) fun o => ∃ s : Nat, o = ((ts, (a, (kind, ((s : Int), ())))), ()) ∧ SIx ts.length (fun j => ts.getD j 0) a s := by
  refine Ret.iter (fun n d => ∃ s : Nat, s < ts.length ∧ n = ts.length - s ∧ (∀ j, 1 ≤ j → j ≤ s → ts.getD j 0 ≤ a) ∧ d = ((ts, (a, (kind, ((s : Int), ())))), ())) _ ?_ fuel ts.length _ ⟨0, by omega, by omega, fun j _ _ => by omega, rfl⟩ (by unfold fuel; omega)
  rintro r n d ⟨s, hs, hn, hle, rfl⟩ ih
  simp only [L_s_l05Find_1]
  rw [iadd_nat (by omega)]
  refine Ret.cond (fun hc => ?_) fun hc => Ret.pure ⟨s, rfl, hs, hle, fun hlt => by (simp only [ilt_T, ilt_F, ile_T, ile_F, ieq_T, ieq_F, bnot_T, bnot_F, ble_T, ble_F, nz_T, nz_F, nonneg_T, nonneg_F] at hc); omega⟩
  (simp only [ilt_T, ilt_F, ile_T, ile_F, ieq_T, ieq_F, bnot_T, bnot_F, ble_T, ble_F, nz_T, nz_F, nonneg_T, nonneg_F] at hc)
  rw [ix_nat (show s + 1 < ts.length by omega), opt_bind_some]
  refine Ret.cond (fun hd => ?_) fun hd => Ret.pure ⟨s, rfl, hs, hle, fun hlt => by (simp only [ilt_T, ilt_F, ile_T, ile_F, ieq_T, ieq_F, bnot_T, bnot_F, ble_T, ble_F, nz_T, nz_F, nonneg_T, nonneg_F] at hd); exact hd⟩
  (simp only [ilt_T, ilt_F, ile_T, ile_F, ieq_T, ieq_F, bnot_T, bnot_F, ble_T, ble_F, nz_T, nz_F, nonneg_T, nonneg_F] at hd)
  refine ih (n - 1) _ (by omega) ⟨s + 1, by omega, by omega, fun j hj1 hj2 => ?_, rfl⟩
  rcases Nat.lt_or_ge j (s + 1) with h | h
  · exact hle j hj1 (by omega)
  · rw [show j = s + 1 by omega]; exact hd

theorem c_s_find {ts : List Int} (a kind : Int) (h1 : 1 ≤ ts.length) (h2 : ts.length ≤ 12) : ∃ s : Nat, SIx ts.length (fun j => ts.getD j 0) a s ∧
    g_s_l05Find ts a kind = some ((s : Int), (bif insB ts.length (fun j => ts.getD j 0) s a kind then shareF (ts.getD s 0) a (ts.getD (s + 1) 0) kind else 0, ())) ∧ g_s_l05Inside ts (s : Int) a kind = some (insB ts.length (fun j => ts.getD j 0) s a kind) := by
  obtain ⟨o, ho, s, rfl, hs⟩ := rt_find (ts := ts) a kind h1 h2
  have hlt := hs.lt
  refine ⟨s, hs, ?_, ?_⟩
  · unfold g_s_l05Find insB
    rw [ho]
    simp only [opt_bind_some]
    rw [iadd_nat (by omega)]
    by_cases h3 : s + 1 = ts.length
    · rw [ieq_t (by omega), cond_t, ilt_f (by omega)]
      cases ieq kind 0 <;> rfl
    · rw [ieq_f (by omega), cond_f, ilt_t (by omega), ix_nat hlt]
      simp only [opt_bind_some]
      by_cases h4 : a ≤ ts.getD s 0
      · rw [ile_t h4, ilt_f h4]
        cases ieq kind 0 <;> rfl
      · rw [ile_f (by omega), ilt_t (by omega), cond_f]
        cases ieq kind 0
        · rw [ix_nat (show s + 1 < ts.length by omega)]
          simp only [opt_bind_some]
          unfold shareF
          cases ieq kind 2 <;> rfl
        · rfl
  · unfold g_s_l05Inside insB
    rw [iadd_nat (by omega)]
    cases ieq kind 0
    · cases h3 : ilt ((s + 1 : Nat) : Int) (ts.length : Int)
      · rfl
      · rw [ix_nat hlt]; rfl
    · rfl

/-! roots -/
theorem map_fst_getD (l : List dRootKey) {j : Nat} (h : j < l.length) : (l.map fun x => x.1).getD j 0 = (l.getD j zRootKey).1 := map_getD _ _ _ _ _ h
theorem map_fst_getD' (l : List dKey) {j : Nat} (h : j < l.length) : (l.map fun x => x.1).getD j 0 = (l.getD j zKey).1 := map_getD _ _ _ _ _ h

theorem rt_rootLoop (l : List dRootKey) (a kind : Int) (b1 : dRootKey) (h1 : l.length ≤ 12) : Ret (iter L_i_track_i_RootKey_sample_1 fuel ((l, (kind, (a, (0, ())))), ((((), ((), ((), ()))), ()), ((b1, ()), ())))) fun o => ∃ i : Nat, o = ((l, (kind, (a, ((i : Int), ())))), ((((), ((), ((), ()))), ()), ((b1, ()), ()))) ∧ IIx l.length (fun j => (l.getD j zRootKey).1) a i := by
  refine Ret.iter (fun n d => ∃ i : Nat, i ≤ l.length ∧ n = l.length - i ∧ (∀ j, j < i → (l.getD j zRootKey).1 ≤ a) ∧ d = ((l, (kind, (a, ((i : Int), ())))), ((((), ((), ((), ()))), ()), ((b1, ()), ())))) _ ?_ fuel l.length _ ⟨0, by omega, by omega, fun j _ => by omega, rfl⟩ (by unfold fuel; omega)
  rintro r n d ⟨i, hi, hn, hle, rfl⟩ ih
  simp only [L_i_track_i_RootKey_sample_1]
  refine Ret.cond (fun hc => ?_) fun hc => Ret.pure ⟨i, rfl, hi, hle, fun hlt => by (simp only [ilt_T, ilt_F, ile_T, ile_F, ieq_T, ieq_F, bnot_T, bnot_F, ble_T, ble_F, nz_T, nz_F, nonneg_T, nonneg_F] at hc); omega⟩
  (simp only [ilt_T, ilt_F, ile_T, ile_F, ieq_T, ieq_F, bnot_T, bnot_F, ble_T, ble_F, nz_T, nz_F, nonneg_T, nonneg_F] at hc)
  rw [ix_nat (show i < l.length by omega), opt_bind_some, show t_i_rootTrack_1 (l.getD i zRootKey) = (l.getD i zRootKey).1 from rfl]
  refine Ret.cond (fun hd => ?_) fun hd => Ret.pure ⟨i, rfl, hi, hle, fun hlt => by (simp only [ilt_T, ilt_F, ile_T, ile_F, ieq_T, ieq_F, bnot_T, bnot_F, ble_T, ble_F, nz_T, nz_F, nonneg_T, nonneg_F] at hd); exact hd⟩
  (simp only [ilt_T, ilt_F, ile_T, ile_F, ieq_T, ieq_F, bnot_T, bnot_F, ble_T, ble_F, nz_T, nz_F, nonneg_T, nonneg_F] at hd)
  rw [iadd_nat (by omega)]
  refine ih (n - 1) _ (by omega) ⟨i + 1, by omega, by omega, fun j hj => ?_, rfl⟩
  rcases Nat.lt_or_ge j i with h | h
  · exact hle j h
  · rw [show j = i by omega]; exact hd

theorem e_root (l : List dRootKey) {n : Int} (h : timesOK (l.map fun x => x.1) n = true) (a kind : Int) : ∃ v, g_s_l05Root l a kind = some v ∧ g_i_track_i_RootKey_sample ((), ((), ((), ()))) l kind a = some (a, (v, ())) := by
  obtain ⟨hl, hup⟩ := times_up h
  rw [List.length_map] at hl hup
  obtain ⟨s, hs, hf, hins⟩ := c_s_find (ts := l.map fun x => x.1) a kind (by rw [List.length_map]; omega) (by rw [List.length_map]; omega)
  rw [List.length_map] at hs hf hins
  have hlt := hs.lt
  have htm : ∀ j, j < l.length → (l.map fun x => x.1).getD j 0 = (l.getD j zRootKey).1 := fun j hj => map_fst_getD l hj
  have hs' : SIx l.length (fun j => (l.getD j zRootKey).1) a s := ⟨hlt, fun j h1 h2 => by rw [← htm j (by omega)]; exact hs.le j h1 h2, fun h1 => by rw [← htm (s + 1) h1]; exact hs.nx h1⟩
  have hup' : ∀ j, j + 1 < l.length → (l.getD j zRootKey).1 < (l.getD (j + 1) zRootKey).1 := fun j hj => by rw [← htm j (by omega), ← htm (j + 1) hj]; exact hup j hj
  obtain ⟨o, ho, i, rfl, hi⟩ := rt_rootLoop l a kind (0, ((0, (0, (0, ()))), ())) hl.2
  have hsame := ix_same hup' hs' hi
  refine ⟨bif insB l.length (fun j => (l.getD j zRootKey).1) s a kind then t_s_l01Between (l.getD s zRootKey).2.1 (l.getD (s + 1) zRootKey).2.1 (shareF (l.getD s zRootKey).1 a (l.getD (s + 1) zRootKey).1 kind) else (l.getD s zRootKey).2.1, ?_, ?_⟩
  · have hb : insB l.length (fun j => (l.map fun x => x.1).getD j 0) s a kind = insB l.length (fun j => (l.getD j zRootKey).1) s a kind := by
      unfold insB
      simp only []
      rw [htm s hlt]
    unfold g_s_l05Root
    rw [c_s_l05RootAt l (by omega), opt_bind_some, hf, opt_bind_some, hins, opt_bind_some, hb, ix_nat hlt]
    simp only [opt_bind_some]
    cases hx : insB l.length (fun j => (l.getD j zRootKey).1) s a kind
    · rfl
    · have h3 : s + 1 < l.length := by
        unfold insB at hx
        simp only [bif_T, ilt_T, reduceCtorEq, and_false, or_false] at hx
        omega
      rw [cond_t, cond_t, iadd_nat (by omega), ix_nat h3, opt_bind_some, htm s hlt, htm (s + 1) h3]
      rfl
  · unfold g_i_track_i_RootKey_sample
    rw [ho]
    simp only [opt_bind_some]
    rcases hsame with ⟨rfl, rfl, h3⟩ | ⟨rfl, h3⟩
    · rw [ieq_t (show ((0 : Nat) : Int) = 0 from rfl), cond_t, ix_ok (Int.le_refl 0) (by omega), opt_bind_some]
      have : insB l.length (fun j => (l.getD j zRootKey).1) 0 a kind = false := by
        unfold insB
        rw [ilt_f (show a ≤ (l.getD 0 zRootKey).1 by omega), cond_same, cond_same]
      rw [this]
      rfl
    · rw [ieq_f (by omega), cond_f, isub_ok (by omega) (by omega), show ((s + 1 : Nat) : Int) - 1 = (s : Int) by omega, ix_nat hlt]
      simp only [opt_bind_some]
      unfold insB
      simp only []
      by_cases h4 : s + 1 = l.length
      · rw [ieq_t (by omega), cond_t, ilt_f (by omega)]
        cases ieq kind 0 <;> rfl
      · rw [ieq_f (by omega), cond_f, ilt_t (show ((s + 1 : Nat) : Int) < (l.length : Int) by omega), show t_i_rootTrack_1 (l.getD s zRootKey) = (l.getD s zRootKey).1 from rfl]
        by_cases h5 : (l.getD s zRootKey).1 = a
        · rw [ieq_t h5, cond_t, ilt_f (by omega)]
          cases ieq kind 0 <;> rfl
        · rw [ieq_f h5, cond_f, ilt_t (by omega)]
          cases ieq kind 0
          · rw [ix_nat (show s + 1 < l.length by omega)]
            simp only [opt_bind_some, cond_f, bnot_f, cond_t]
            unfold shareF
            cases ieq kind 2 <;> rfl
          · rfl

/-! turns -/
theorem se_NearTurn (a b : dTurn) (sh : Nat) : g_i_NearTurn a b sh = g_s_l02Near a b sh := by
  unfold g_i_NearTurn g_s_l02Near t_s_l02Opposite
  rw [se_InnerOfTurns]
  simp only [se_MendTurn, opt_bind_pure]
  cases flt .f32 (t_s_l02Inner a b) 0 <;> rfl
def nearOf (a b : dTurn) (sh : Nat) : dTurn := (g_s_l02Near a b sh).getD zTurn
theorem c_near (a b : dTurn) (sh : Nat) : g_s_l02Near a b sh = some (nearOf a b sh) := by
  unfold nearOf
  obtain ⟨y, hy, _⟩ : Ret (g_s_l02Near a b sh) fun _ => True := by
    unfold g_s_l02Near
    rw [opt_bind_pure]
    exact rt_l02Mend _
  rw [hy]; rfl

theorem rt_turnLoop (l : List dKey) (a kind : Int) (b1 : dKey) (h1 : l.length ≤ 12) : Ret (iter L_i_track_i_Key_sample_1 fuel ((l, (kind, (a, (0, ())))), ((((), ((), ((), ()))), ()), ((b1, ()), ())))) fun o => ∃ i : Nat, o = ((l, (kind, (a, ((i : Int), ())))), ((((), ((), ((), ()))), ()), ((b1, ()), ()))) ∧ IIx l.length (fun j => (l.getD j zKey).1) a i := by
  refine Ret.iter (fun n d => ∃ i : Nat, i ≤ l.length ∧ n = l.length - i ∧ (∀ j, j < i → (l.getD j zKey).1 ≤ a) ∧ d = ((l, (kind, (a, ((i : Int), ())))), ((((), ((), ((), ()))), ()), ((b1, ()), ())))) _ ?_ fuel l.length _ ⟨0, by omega, by omega, fun j _ => by omega, rfl⟩ (by unfold fuel; omega)
  rintro r n d ⟨i, hi, hn, hle, rfl⟩ ih
  simp only [L_i_track_i_Key_sample_1]
  refine Ret.cond (fun hc => ?_) fun hc => Ret.pure ⟨i, rfl, hi, hle, fun hlt => by (simp only [ilt_T, ilt_F, ile_T, ile_F, ieq_T, ieq_F, bnot_T, bnot_F, ble_T, ble_F, nz_T, nz_F, nonneg_T, nonneg_F] at hc); omega⟩
  (simp only [ilt_T, ilt_F, ile_T, ile_F, ieq_T, ieq_F, bnot_T, bnot_F, ble_T, ble_F, nz_T, nz_F, nonneg_T, nonneg_F] at hc)
  rw [ix_nat (show i < l.length by omega), opt_bind_some, show t_i_turnTrack_1 (l.getD i zKey) = (l.getD i zKey).1 from rfl]
  refine Ret.cond (fun hd => ?_) fun hd => Ret.pure ⟨i, rfl, hi, hle, fun hlt => by (simp only [ilt_T, ilt_F, ile_T, ile_F, ieq_T, ieq_F, bnot_T, bnot_F, ble_T, ble_F, nz_T, nz_F, nonneg_T, nonneg_F] at hd); exact hd⟩
  (simp only [ilt_T, ilt_F, ile_T, ile_F, ieq_T, ieq_F, bnot_T, bnot_F, ble_T, ble_F, nz_T, nz_F, nonneg_T, nonneg_F] at hd)
  rw [iadd_nat (by omega)]
  refine ih (n - 1) _ (by omega) ⟨i + 1, by omega, by omega, fun j hj => ?_, rfl⟩
  rcases Nat.lt_or_ge j i with h | h
  · exact hle j h
  · rw [show j = i by omega]; exact hd

theorem e_turn (l : List dKey) {n : Int} (h : timesOK (l.map fun x => x.1) n = true) (a kind : Int) : ∃ v, g_s_l05Turn l a kind = some v ∧ g_i_track_i_Key_sample ((), ((), ((), ()))) l kind a = some (a, (v, ())) := by
  obtain ⟨hl, hup⟩ := times_up h
  rw [List.length_map] at hl hup
  obtain ⟨s, hs, hf, hins⟩ := c_s_find (ts := l.map fun x => x.1) a kind (by rw [List.length_map]; omega) (by rw [List.length_map]; omega)
  rw [List.length_map] at hs hf hins
  have hlt := hs.lt
  have htm : ∀ j, j < l.length → (l.map fun x => x.1).getD j 0 = (l.getD j zKey).1 := fun j hj => map_fst_getD' l hj
  have hs' : SIx l.length (fun j => (l.getD j zKey).1) a s := ⟨hlt, fun j h1 h2 => by rw [← htm j (by omega)]; exact hs.le j h1 h2, fun h1 => by rw [← htm (s + 1) h1]; exact hs.nx h1⟩
  have hup' : ∀ j, j + 1 < l.length → (l.getD j zKey).1 < (l.getD (j + 1) zKey).1 := fun j hj => by rw [← htm j (by omega), ← htm (j + 1) hj]; exact hup j hj
  obtain ⟨o, ho, i, rfl, hi⟩ := rt_turnLoop l a kind (0, ((0, (0, (0, (0, ())))), ())) hl.2
  have hsame := ix_same hup' hs' hi
  refine ⟨bif insB l.length (fun j => (l.getD j zKey).1) s a kind then nearOf (l.getD s zKey).2.1 (l.getD (s + 1) zKey).2.1 (shareF (l.getD s zKey).1 a (l.getD (s + 1) zKey).1 kind) else (l.getD s zKey).2.1, ?_, ?_⟩
  · have hb : insB l.length (fun j => (l.map fun x => x.1).getD j 0) s a kind = insB l.length (fun j => (l.getD j zKey).1) s a kind := by
      unfold insB
      simp only []
      rw [htm s hlt]
    unfold g_s_l05Turn
    rw [c_s_l05At l (by omega), opt_bind_some, hf, opt_bind_some, hins, opt_bind_some, hb, ix_nat hlt]
    simp only [opt_bind_some]
    cases hx : insB l.length (fun j => (l.getD j zKey).1) s a kind
    · rfl
    · have h3 : s + 1 < l.length := by
        unfold insB at hx
        simp only [bif_T, ilt_T, reduceCtorEq, and_false, or_false] at hx
        omega
      rw [cond_t, cond_t, iadd_nat (by omega), ix_nat h3, opt_bind_some, htm s hlt, htm (s + 1) h3, cond_t, c_near]
      rfl
  · unfold g_i_track_i_Key_sample
    rw [ho]
    simp only [opt_bind_some]
    rcases hsame with ⟨rfl, rfl, h3⟩ | ⟨rfl, h3⟩
    · rw [ieq_t (show ((0 : Nat) : Int) = 0 from rfl), cond_t, ix_ok (Int.le_refl 0) (by omega), opt_bind_some]
      have : insB l.length (fun j => (l.getD j zKey).1) 0 a kind = false := by
        unfold insB
        rw [ilt_f (show a ≤ (l.getD 0 zKey).1 by omega), cond_same, cond_same]
      rw [this]
      rfl
    · rw [ieq_f (by omega), cond_f, isub_ok (by omega) (by omega), show ((s + 1 : Nat) : Int) - 1 = (s : Int) by omega, ix_nat hlt]
      simp only [opt_bind_some]
      unfold insB
      simp only []
      by_cases h4 : s + 1 = l.length
      · rw [ieq_t (by omega), cond_t, ilt_f (by omega)]
        cases ieq kind 0 <;> rfl
      · rw [ieq_f (by omega), cond_f, ilt_t (show ((s + 1 : Nat) : Int) < (l.length : Int) by omega), show t_i_turnTrack_1 (l.getD s zKey) = (l.getD s zKey).1 from rfl]
        by_cases h5 : (l.getD s zKey).1 = a
        · rw [ieq_t h5, cond_t, ilt_f (by omega)]
          cases ieq kind 0 <;> rfl
        · rw [ieq_f h5, cond_f, ilt_t (by omega)]
          cases ieq kind 0
          · rw [ix_nat (show s + 1 < l.length by omega)]
            simp only [opt_bind_some, cond_f, bnot_f, cond_t, g_i_turnTrack_3, se_NearTurn, c_near]
            unfold shareF
            cases ieq kind 2 <;> rfl
          · rfl
end Go.Fw
