/- The reference's functions and the program's compute the same (third part). No condition. -/
import Derived.Test.YtijmellgdjcofaaAEq2
set_option linter.unusedVariables false
set_option linter.unusedSimpArgs false
namespace Go.Fw

/-! ValidRecording -/
theorem se_isCount (c : Int) : t_i_isCount c = t_s_l06Count c := rfl
theorem l06Count_T (c : Int) : (t_s_l06Count c = true) = (1 ≤ c ∧ c ≤ 12) := l00In_T c 1 12

theorem e_l10Is (r : dRec) (h : r.2.1.length < 4611686018427387904) : Same (g_s_l10Is r) (g_i_ValidRecording r) fun b => b = true → (1 ≤ r.1 ∧ r.1 ≤ 12) ∧ r.2.1.length ≤ 64 ∧ ∀ j, j < r.2.1.length → ((r.2.1.getD j zPose).2.1.length : Int) = r.1 := by
  unfold g_s_l10Is g_i_ValidRecording g_slices_ContainsFunc_i_Pose_i_Pose g_slices_IndexFunc_i_Pose_i_Pose
  rw [se_isCount]
  cases h1 : t_s_l06Count r.1
  · exact Same.pure nofun
  rw [bnot_t, cond_f, cond_t]
  rw [l06Count_T] at h1
  by_cases h2 : r.2.1.length ≤ 64
  · rw [ilt_f (by omega), cond_f, ile_t (by omega), cond_t]
    simp only [opt_bind_assoc, opt_bind_cond, opt_bind_some]
    refine Ret2.same (Ret2.bind' (Ret2.iter (fun n d e => ∃ i : Nat, i ≤ r.2.1.length ∧ n = r.2.1.length - i ∧ (∀ j, j < i → ((r.2.1.getD j zPose).2.1.length : Int) = r.1) ∧ d = ((r, (false, ((i : Int), ()))), ()) ∧ e = ((r.2.1, ((r, ()), (0, ((r.2.1.length : Int), ((i : Int), ()))))), ()))
      (fun o o' => o.1 = o'.1 ∧ (o.1 = true → o.2.1.1 = false ∧ 0 ≤ o'.2.1.1) ∧ (o.1 = false → ∀ j, j < r.2.1.length → ((r.2.1.getD j zPose).2.1.length : Int) = r.1)) ?_ fuel r.2.1.length _ _ ⟨0, by omega, by omega, fun j hj => by omega, rfl, rfl⟩ (by unfold fuel; omega)) ?_)
    · rintro f f' n d e ⟨i, hi, hn, hf, rfl, rfl⟩ ih
      simp only [L_s_l10Is_1, L_slices_IndexFunc_i_Pose_i_Pose_1]
      refine Ret2.cond rfl (fun hc => ?_) fun hc => Ret2.pure ⟨rfl, nofun, fun _ j hj => hf j (by (simp only [ilt_T, ilt_F, ile_T, ile_F, ieq_T, ieq_F, bnot_T, bnot_F, ble_T, ble_F, nz_T, nz_F, nonneg_T, nonneg_F] at hc); omega)⟩
      (simp only [ilt_T, ilt_F, ile_T, ile_F, ieq_T, ieq_F, bnot_T, bnot_F, ble_T, ble_F, nz_T, nz_F, nonneg_T, nonneg_F] at hc)
      rw [ix_ok (by omega) (by omega), iadd_ok (by omega) (by omega)]
      simp only [opt_bind_some, t_i_ValidRecording_1]
      refine Ret2.cond rfl (fun _ => Ret2.pure ⟨rfl, fun _ => ⟨rfl, by dsimp only; omega⟩, nofun⟩) fun hq => ih (n - 1) _ _ (by omega) ⟨i + 1, by omega, by omega, fun j hj => ?_, rfl, rfl⟩
      rcases Nat.lt_or_ge j i with h3 | h3
      · exact hf j h3
      · rw [bnot_F, ieq_T, show ((i : Int)).toNat = j by omega] at hq; exact hq
    · rintro ⟨b, ⟨o, ⟨⟩⟩, ⟨⟩⟩ ⟨b', ⟨o', ⟨⟩⟩, ⟨⟩⟩ ⟨h3, h4, h5⟩
      dsimp only at h3 h4 h5
      subst h3
      cases b
      · exact Ret2.pure ⟨rfl, fun _ => ⟨h1, h2, h5 rfl⟩⟩
      · obtain ⟨e1, e2⟩ := h4 rfl
        dsimp only
        rw [cond_t, cond_t, e1, ile_t e2]
        exact Ret2.pure ⟨rfl, nofun⟩
  · rw [ilt_t (by omega), cond_t, ile_f (by omega), cond_f]
    exact Same.pure nofun

theorem e_ValidRecording (r : dRec) (h : (z_Rec r : Int) ≤ 1048576) (hok : okPs [.ro true tRec] (r, ())) : Same (g_s_ValidRecording r) (g_i_ValidRecording r) fun _ => True := by
  unfold g_s_ValidRecording
  rw [opt_bind_pure]
  have := szL_len (s := z_Pose) r.2.1
  unfold z_Rec at h
  obtain ⟨y, h1, h2, _⟩ := e_l10Is r (by omega)
  exact ⟨y, h1, h2, trivial⟩

/-! ChangedNumbers -/
/-- The same number, bit for bit, all not-a-numbers being one. -/
def same (x y : Nat) : Bool := Nat.beq x y
theorem same_iff {x y : Nat} : same x y = true ↔ x = y := ⟨Nat.eq_of_beq_eq_true, fun h => by subst h; exact Nat.beq_refl x⟩
theorem same_ne {x y : Nat} (h : x ≠ y) : same x y = false := by
  cases hs : same x y
  · rfl
  · exact absurd (same_iff.1 hs) h

theorem c_s_l01Bits {x : Nat} (hx : okF .f32 x) : g_s_l01Bits x = some (x : Int) := by
  unfold g_s_l01Bits g_float32bits
  rw [feq_self]
  have := hx.lt32
  cases hn : isNan .f32 x
  · simp only [bnot_t, bnot_f, cond_f, opt_bind_some]; rw [iconv_ok (by omega) (by omega)]
  · rw [hx.nan hn]; rfl
theorem c_s_l01Same {x y : Nat} (hx : okF .f32 x) (hy : okF .f32 y) : g_s_l01Same x y = some (same x y) := by
  unfold g_s_l01Same
  rw [c_s_l01Bits hx, c_s_l01Bits hy]
  simp only [opt_bind_some, Option.some.injEq]
  rw [Bool.eq_iff_iff, same_iff]
  unfold ieq
  simp; omega
theorem zero_cases {x : Nat} (hx : x < 2 ^ 32) (h : x % 2 ^ 31 = 0) : x = 0 ∨ x = 2 ^ 31 := by omega
theorem c_math_Signbit {x : Nat} (hx : x < 2 ^ 64) (hn : isNan .f64 x = false) : g_math_Signbit x = some (decide (2 ^ 63 ≤ x)) := by
  unfold g_math_Signbit g_float64bits
  rw [hn, cond_f, opt_bind_some]
  congr 1
  unfold iconv ilt
  rw [IntKind.wrap_i64]
  congr 1
  simp only [eq_iff_iff]
  omega
theorem c_i_SameNumber {x y : Nat} (hx : okF .f32 x) (hy : okF .f32 y) : g_i_SameNumber x y = some (same x y) := by
  unfold g_i_SameNumber
  rw [feq_self, feq_self]
  have lx := hx.lt32
  have ly := hy.lt32
  cases nx : isNan .f32 x <;> cases ny : isNan .f32 y <;> simp only [bnot_t, bnot_f, cond_f, cond_t]
  · obtain ⟨a, ha, hna, hla, hda⟩ := widen lx nx
    obtain ⟨b, hb, hnb, hlb, hdb⟩ := widen ly ny
    rw [fconv_wide lx] at ha
    rw [fconv_wide ly] at hb
    cases ha; cases hb
    rw [c_math_Signbit hla hna, c_math_Signbit hlb hnb]
    simp only [opt_bind_some]
    cases he : feq .f32 x y
    · rw [cond_f, same_ne fun e => by rw [← e, feq_self, nx] at he; cases he]
    · rw [cond_t]
      congr 1
      rw [Bool.eq_iff_iff, same_iff]
      have sa : decide (2 ^ 63 ≤ fwide x) = decide (2 ^ 31 ≤ x) := by
        congr 1; simp only [eq_iff_iff]; omega
      have sb : decide (2 ^ 63 ≤ fwide y) = decide (2 ^ 31 ≤ y) := by
        congr 1; simp only [eq_iff_iff]; omega
      rw [sa, sb]
      rcases feq_spec (k := .f32) hx.lt hy.lt he with h | ⟨h1, h2⟩
      · subst h; simp
      · rcases zero_cases lx h1 with e1 | e1 <;> rcases zero_cases ly h2 with e2 | e2 <;> subst e1 <;> subst e2 <;> decide
  · rw [same_ne fun e => by rw [e, ny] at nx; cases nx]
  · rw [same_ne fun e => by rw [e, ny] at nx; cases nx]
  · rw [hx.nan nx, hy.nan ny]; rfl

theorem getD_ok {α : Type} {P : α → Prop} {l : List α} {z : α} {j : Nat} (h : ∀ x ∈ l, P x) (hj : j < l.length) : P (l.getD j z) := by
  rw [List.getD_eq_getElem?_getD, List.getElem?_eq_getElem hj]
  exact h _ (List.getElem_mem _)

theorem e_changed (a b : List Nat) (ha : ∀ x ∈ a, okF .f32 x) (hb : ∀ x ∈ b, okF .f32 x) (hl : b.length = a.length) (hs : a.length ≤ 64) : Same (g_s_l10Changed a b) (g_i_changed a b) fun y => y.length ≤ 64 := by
  unfold g_s_l10Changed g_i_changed
  refine Ret2.same (Ret2.bind' (Ret2.iter (fun n d e => ∃ (i : Nat) (q : List Int), i ≤ a.length ∧ n = a.length - i ∧ q.length ≤ i ∧ d = ((a, (b, ((i : Int), ()))), (q, ())) ∧ e = ((a, (b, ((a.length : Int), ((i : Int), ())))), (q, ())))
    (fun o o' => o.2.1 = o'.2.1 ∧ o.2.1.length ≤ 64) ?_ fuel a.length _ _ ⟨0, [], by omega, by omega, by simp, rfl, rfl⟩ (by unfold fuel; omega)) fun o o' h => Ret2.pure h)
  rintro r r' n d e ⟨i, q, hi, hn, hq, rfl, rfl⟩ ih
  simp only [L_s_l10Changed_1, L_i_changed_1]
  refine Ret2.cond rfl (fun hc => ?_) fun _ => Ret2.pure ⟨rfl, by dsimp only; omega⟩
  (simp only [ilt_T, ilt_F, ile_T, ile_F, ieq_T, ieq_F, bnot_T, bnot_F, ble_T, ble_F, nz_T, nz_F, nonneg_T, nonneg_F] at hc)
  rw [ix_ok (by omega) (by omega), ix_ok (by omega) (by omega), iadd_ok (by omega) (by omega)]
  simp only [opt_bind_some]
  rw [c_s_l01Same (getD_ok ha (by omega)) (getD_ok hb (by omega)), c_i_SameNumber (getD_ok ha (by omega)) (getD_ok hb (by omega)), ble_t (by omega)]
  simp only [opt_bind_some, cond_t]
  exact Ret2.cond rfl (fun _ => ih (n - 1) _ _ (by omega) ⟨i + 1, q ++ [(i : Int)], by omega, by omega, by simp; omega, rfl, rfl⟩) fun _ => ih (n - 1) _ _ (by omega) ⟨i + 1, q, by omega, by omega, by omega, rfl, rfl⟩

theorem e_ChangedNumbers (a b : dPose) (h : (z_Pose a : Int) ≤ 1048576) (h' : (z_Pose b : Int) ≤ 1048576) (hok : okPs [.ro true tPose, .ro true tPose] (a, b, ())) : Same (g_s_ChangedNumbers a b) (g_i_ChangedNumbers a b) fun y => szL z_I64 y.1 ≤ 1048576 := by
  have hz : ∀ l : List Int, szL z_I64 l = l.length := szL_zero
  unfold g_s_ChangedNumbers g_i_ChangedNumbers t_i_arePair
  rw [se_isPose]
  cases h1 : t_s_l03Few a
  · exact Same.pure (by simp [szL])
  rw [bnot_t, cond_f, cond_t]
  cases h2 : ieq (a.2.1.length : Int) (b.2.1.length : Int)
  · exact Same.pure (by simp [szL])
  rw [bnot_t, cond_f, cond_f, se_listed, se_listed]
  rw [l03Few_T] at h1
  (simp only [ilt_T, ilt_F, ile_T, ile_F, ieq_T, ieq_F, bnot_T, bnot_F, ble_T, ble_F, nz_T, nz_F, nonneg_T, nonneg_F] at h2)
  obtain ⟨y1, e1, l1, f1⟩ := rt_l10Numbers a h1.2 hok.1.2.1 hok.1.1
  obtain ⟨y2, e2, l2, f2⟩ := rt_l10Numbers b (by omega) hok.2.1.2.1 hok.2.1.1
  rw [e1, e2]
  simp only [opt_bind_some]
  obtain ⟨y3, e3, e4, l3⟩ := e_changed y1 y2 f1 f2 (by omega) (by omega)
  rw [e3, e4]
  exact Same.pure (by show szL z_I64 y3 ≤ 1048576; rw [hz]; omega)

/-! EdgesOf -/
theorem c_contains_edges (s : List Int) (p : List dVec) (h : s.length < 4611686018427387904) : g_slices_ContainsFunc_int64_int64 s (p, ()) = some (s.any fun k => t_i_EdgesOf_1 k p) := by
  unfold g_slices_ContainsFunc_int64_int64 g_slices_IndexFunc_int64_int64
  simp only [opt_bind_assoc, opt_bind_cond, opt_bind_some]
  obtain ⟨o, ho, h1, h2⟩ := Ret.iter (step := L_slices_IndexFunc_int64_int64_1) (fun n d => ∃ i : Nat, i ≤ s.length ∧ n = s.length - i ∧ (∀ j, j < i → t_i_EdgesOf_1 (s.getD j 0) p = false) ∧ d = ((s, ((p, ()), (0, ((s.length : Int), ((i : Int), ()))))), ()))
    (fun o => (o.1 = true → 0 ≤ o.2.1.1 ∧ (s.any fun k => t_i_EdgesOf_1 k p) = true) ∧ (o.1 = false → (s.any fun k => t_i_EdgesOf_1 k p) = false)) (by
      rintro r n d ⟨i, hi, hn, hf, rfl⟩ ih
      simp only [L_slices_IndexFunc_int64_int64_1]
      refine Ret.cond (fun hc => ?_) fun hc => Ret.pure ⟨nofun, fun _ => ?_⟩
      · (simp only [ilt_T, ilt_F, ile_T, ile_F, ieq_T, ieq_F, bnot_T, bnot_F, ble_T, ble_F, nz_T, nz_F, nonneg_T, nonneg_F] at hc)
        rw [ix_ok (by omega) (by omega), iadd_ok (by omega) (by omega), opt_bind_some]
        refine Ret.cond (fun hq => Ret.pure ⟨fun _ => ⟨by dsimp only; omega, ?_⟩, nofun⟩) fun hq => ih (n - 1) _ (by omega) ⟨i + 1, by omega, by omega, fun j hj => ?_, rfl⟩
        · rw [List.any_eq_true]
          refine ⟨s.getD ((i : Int)).toNat 0, ?_, hq⟩
          rw [List.getD_eq_getElem?_getD, List.getElem?_eq_getElem (by omega)]
          exact List.getElem_mem _
        · rcases Nat.lt_or_ge j i with h3 | h3
          · exact hf j h3
          · rw [show ((i : Int)).toNat = j by omega] at hq; exact hq
      · (simp only [ilt_T, ilt_F, ile_T, ile_F, ieq_T, ieq_F, bnot_T, bnot_F, ble_T, ble_F, nz_T, nz_F, nonneg_T, nonneg_F] at hc)
        rw [List.any_eq_false]
        intro x hx
        obtain ⟨j, hj, rfl⟩ := List.getElem_of_mem hx
        have := hf j (by omega)
        rw [List.getD_eq_getElem?_getD, List.getElem?_eq_getElem hj] at this
        simpa using this) fuel s.length _ ⟨0, by omega, by omega, fun j hj => by omega, rfl⟩ (by unfold fuel; omega)
  rw [show ((0 : Nat) : Int) = 0 from rfl] at ho
  rw [ho, opt_bind_some]
  cases hb : o.1
  · rw [cond_f, h2 hb]; rfl
  · rw [cond_t, ile_t (h1 hb).1, (h1 hb).2]

theorem edges_pred (k : Int) (p : List dVec) (h : p.length < 4611686018427387904) : t_i_EdgesOf_1 k p = !(t_s_l00In k 0 (isub .i64 (p.length : Int) 1)) := by
  rw [isub_ok (by omega) (by omega)]
  unfold t_i_EdgesOf_1
  cases hb : t_s_l00In k 0 ((p.length : Int) - 1)
  · rw [l00In_F] at hb
    by_cases hk : k < 0
    · rw [ilt_t hk]; rfl
    · rw [ilt_f (by omega), cond_f, ile_t (by omega)]; rfl
  · rw [l00In_T] at hb
    rw [ilt_f hb.1, cond_f, ile_f (by omega)]; rfl

theorem two_list {l : List Int} (h : l.length = 2) : l = [l.getD 0 0, l.getD 1 0] := by
  match l, h with
  | [a, b], _ => rfl

theorem e_EdgesOf (p : List dVec) (q : List (List Int)) (h : (szL z_Vec p : Int) ≤ 1048576) (h' : (szL z_I64S q : Int) ≤ 1048576) (hok : okPs [.ro false (.slice tVec), .ro false (.slice (.slice (.int .i64)))] (p, q, ())) : Same (g_s_EdgesOf p q) (g_i_EdgesOf p q) fun y => szL z_F32 y.1 ≤ 1048576 := by
  have hz : ∀ l : List Nat, szL z_F32 l = l.length := szL_zero
  unfold g_s_EdgesOf g_i_EdgesOf
  have hn : szL z_F32 [] ≤ 1048576 := by simp [szL]
  refine Ret2.same (Ret2.cond rfl (fun _ => Ret2.pure ⟨rfl, hn⟩) fun h1 => Ret2.cond rfl (fun _ => Ret2.pure ⟨rfl, hn⟩) fun h2 => ?_)
  (simp only [ilt_T, ilt_F, ile_T, ile_F, ieq_T, ieq_F, bnot_T, bnot_F, ble_T, ble_F, nz_T, nz_F, nonneg_T, nonneg_F] at h1)
  (simp only [ilt_T, ilt_F, ile_T, ile_F, ieq_T, ieq_F, bnot_T, bnot_F, ble_T, ble_F, nz_T, nz_F, nonneg_T, nonneg_F] at h2)
  rw [mkOk_t (by omega) (by omega) (by omega), cond_t]
  refine Ret2.bind' (Ret2.iter (fun n d e => ∃ (i : Nat) (r : List Nat), i ≤ q.length ∧ n = q.length - i ∧ r.length = i ∧ d = ((p, (q, (false, ((p.length : Int), ((q.length : Int), ((i : Int), ())))))), (r, ())) ∧ e = ((false, (q, ((q.length : Int), ((i : Int), ())))), ((p, ()), (r ++ List.replicate (q.length - i) 0, ()))))
    (fun o o' => o.1 = o'.1 ∧ o.2.1.1 = false ∧ o'.2.1.1 = false ∧ (o.1 = false → o.2.2.1 = o'.2.2.1 ∧ o.2.2.1.length ≤ 64)) ?_ fuel q.length _ _ ⟨0, [], by omega, by omega, rfl, rfl, rfl⟩ (by unfold fuel; omega)) ?_
  · rintro f f' n d e ⟨i, r, hi, hn, hr, rfl, rfl⟩ ih
    simp only [L_s_EdgesOf_1, L_i_EdgesOf_1]
    refine Ret2.cond rfl (fun hc => ?_) fun hc => Ret2.pure ⟨rfl, rfl, rfl, fun _ => ?_⟩
    · (simp only [ilt_T, ilt_F, ile_T, ile_F, ieq_T, ieq_F, bnot_T, bnot_F, ble_T, ble_F, nz_T, nz_F, nonneg_T, nonneg_F] at hc)
      rw [ix_ok (i := (i : Int)) (n := q.length) (by omega) (by omega), iadd_ok (by omega) (by omega)]
      simp only [opt_bind_some]
      generalize hg : q.getD ((i : Int)).toNat [] = l
      refine Ret2.cond rfl (fun _ => Ret2.pure ⟨rfl, rfl, rfl, nofun⟩) fun h2 => ?_
      rw [bnot_F, ieq_T] at h2
      have hl : l.length = 2 := by omega
      rw [c_contains_edges l p (by omega), ix_ok (i := 0) (n := l.length) (by omega) (by omega), ix_ok (i := 1) (n := l.length) (by omega) (by omega)]
      simp only [opt_bind_some, show (0 : Int).toNat = 0 from rfl, show (1 : Int).toNat = 1 from rfl]
      rw [show (l.any fun k => t_i_EdgesOf_1 k p) = (t_i_EdgesOf_1 (l.getD 0 0) p || t_i_EdgesOf_1 (l.getD 1 0) p) by
        conv => lhs; rw [two_list hl]
        simp]
      rw [edges_pred _ p (by omega), edges_pred _ p (by omega)]
      cases hb : t_s_l00In (l.getD 0 0) 0 (isub .i64 (p.length : Int) 1)
      · exact Ret2.pure ⟨rfl, rfl, rfl, nofun⟩
      cases hb2 : t_s_l00In (l.getD 1 0) 0 (isub .i64 (p.length : Int) 1)
      · exact Ret2.pure ⟨rfl, rfl, rfl, nofun⟩
      rw [isub_ok (by omega) (by omega), l00In_T] at hb hb2
      simp only [bnot_t, cond_f, Bool.or_self]
      rw [ix_ok (i := l.getD 1 0) (by omega) (by omega), ix_ok (i := l.getD 0 0) (by omega) (by omega)]
      simp only [opt_bind_some, se_LongOf, se_LessVectors]
      refine Ret2.bind' (Same.two (Same.of rfl (rt_l01Long _))) ?_
      rintro y _ ⟨rfl, hy⟩
      rw [ble_t (by omega), cond_t, ix_ok (by omega) (by simp; omega), opt_bind_some]
      refine ih (n - 1) _ _ (by omega) ⟨i + 1, r ++ [y], by omega, by omega, by simp; omega, rfl, ?_⟩
      have hx : ((i : Int)).toNat = r.length := by omega
      rw [hx, show q.length - i = (q.length - (i + 1)) + 1 by omega, List.replicate_succ, set_mid]
      simp
    · (simp only [ilt_T, ilt_F, ile_T, ile_F, ieq_T, ieq_F, bnot_T, bnot_F, ble_T, ble_F, nz_T, nz_F, nonneg_T, nonneg_F] at hc)
      have : q.length - i = 0 := by omega
      rw [this]
      exact ⟨by simp, by dsimp only; omega⟩
  · rintro ⟨b, ⟨o, ⟨⟩⟩, ⟨r, ⟨⟩⟩⟩ ⟨b', ⟨o', ⟨⟩⟩, ⟨r', ⟨⟩⟩⟩ ⟨h3, h4, h5, h6⟩
    dsimp only at h3 h4 h5 h6
    subst h3 h4 h5
    cases b
    · obtain ⟨rfl, h7⟩ := h6 rfl
      exact Ret2.pure ⟨rfl, by dsimp only; rw [hz]; omega⟩
    · exact Ret2.pure ⟨rfl, hn⟩
end Go.Fw
