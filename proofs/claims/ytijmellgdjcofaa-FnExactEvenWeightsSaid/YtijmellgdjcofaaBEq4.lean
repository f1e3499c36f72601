/- The reference's functions and the program's compute the same: even weights. No condition. -/
import Derived.Test.YtijmellgdjcofaaBEq3
set_option linter.unusedVariables false
set_option linter.unusedSimpArgs false
namespace Go.Fw

/-- A list filled place by place. -/
theorem fill_loop {β D O : Type} {step : (D → Option O) → D → Option O} (d : Nat → List β → D) (out : List β → O) (f : Nat → β) (n : Nat)
    (h1 : ∀ r i acc, i < n → acc.length = n → step r (d i acc) = r (d (i + 1) (acc.set i (f i)))) (h2 : ∀ r acc, acc.length = n → step r (d n acc) = some (out acc)) (hn : n < 4611686018427387904) (acc0 : List β) (h0 : acc0.length = n) :
    iter step fuel (d 0 acc0) = some (out ((List.range n).map f)) := by
  have key : ∀ (k i N : Nat) (acc : List β), i + k = n → k < N → acc.length = n → (∀ j, j < i → acc[j]? = some (f j)) → iter step N (d i acc) = some (out ((List.range n).map f)) := by
    intro k
    induction k with
    | zero =>
      intro i N acc hi hN hl hf
      obtain _ | N := N
      · omega
      rw [iter_succ, show i = n by omega, h2 _ _ hl]
      congr 2
      apply List.ext_getElem?
      intro j
      by_cases hj : j < n
      · rw [hf j (by omega)]; simp [hj]
      · rw [List.getElem?_eq_none (by omega), List.getElem?_eq_none (by simp; omega)]
    | succ k ih =>
      intro i N acc hi hN hl hf
      obtain _ | N := N
      · omega
      rw [iter_succ, h1 _ _ _ (by omega) hl]
      refine ih (i + 1) N _ (by omega) (by omega) (by simpa using hl) fun j hj => ?_
      by_cases e : j = i
      · subst e; rw [List.getElem?_set_self (by omega)]
      · rw [List.getElem?_set_ne (Ne.symm e)]; exact hf j (by omega)
  exact key n 0 fuel acc0 (by omega) (by unfold fuel; omega) h0 fun j hj => by omega

def wAt (ws : List Nat) (s : Nat) (j : Nat) : Nat := bif feq .f32 s 0 then (bif ieq (j : Int) 0 then 1065353216 else 0) else bif t_s_l01Finite s then fdiv .f32 (ws.getD j 0) s else (bif ieq (j : Int) 0 then 1065353216 else 0)
def newWs (ws : List Nat) (s : Nat) : List Nat := (List.range ws.length).map (wAt ws s)
theorem newWs_len (ws : List Nat) (s : Nat) : (newWs ws s).length = ws.length := by simp [newWs]

theorem se_sum_loop (l : List Nat) : ∀ (n : Nat) (s : Nat) (i : Int), iter L_i_sum_1 n ((s, (l, ((l.length : Int), (i, ())))), ()) = iter L_s_l01Sum_1 n ((l, (s, (i, ()))), ())
  | 0, _, _ => rfl
  | n + 1, s, i => by
    have ih := se_sum_loop l n
    rw [iter_succ, iter_succ]
    simp only [L_i_sum_1, L_s_l01Sum_1, ih]
theorem se_sum (l : List Nat) : g_i_sum l = g_s_l01Sum l := by
  unfold g_i_sum g_s_l01Sum
  rw [se_sum_loop]
theorem rt_sum (l : List Nat) (h : l.length < 4611686018427387904) : Ret (g_s_l01Sum l) fun _ => True := by
  unfold g_s_l01Sum
  refine Ret.bind ((Ret.iter (fun n d => ∃ (i s : Nat), i ≤ l.length ∧ n = l.length - i ∧ d = ((l, (s, ((i : Int), ()))), ())) (fun _ => True) ?_ fuel l.length _ ⟨0, 0, by omega, by omega, rfl⟩ (by unfold fuel; omega)).mono fun y _ => Ret.pure trivial)
  rintro r n d ⟨i, s, hi, hn, rfl⟩ ih
  simp only [L_s_l01Sum_1]
  refine Ret.cond (fun hc => ?_) fun _ => Ret.pure trivial
  (simp only [ilt_T, ilt_F, ile_T, ile_F, ieq_T, ieq_F, bnot_T, bnot_F, ble_T, ble_F, nz_T, nz_F, nonneg_T, nonneg_F] at hc)
  rw [ix_nat (show i < l.length by omega), iadd_nat (by omega), opt_bind_some]
  exact ih (n - 1) _ (by omega) ⟨i + 1, _, by omega, by omega, rfl⟩

theorem c_s_l00Own (l : List Int) (h : l.length ≤ 4294967296) : g_s_l00Own l = some l := by
  unfold g_s_l00Own
  rw [ble_t (by omega), List.nil_append]; rfl
theorem c_Clone (l : List Int) (h : l.length ≤ 4294967296) : g_slices_Clone_int64_int64 l = some l := by
  unfold g_slices_Clone_int64_int64
  rw [ble_t (by omega), List.nil_append]
  simp only [cond_t]
  cases l with
  | nil => exact bothSame_self _
  | cons x r => rfl

theorem s_even_inner (ps : List dSkinPoint) (s : Nat) (a b : Int) (r0 : List dSkinPoint) (p : dSkinPoint) (bs : List Int) (h : p.2.2.1.length ≤ 1048576) :
    iter L_s_EvenWeights_2 fuel ((ps, (false, (s, (a, (b, ((p.2.2.1.length : Int), (0, ()))))))), (r0, ((p, ()), (bs, ([], ((p.1, ()), ())))))) = some ((ps, (false, (a, (b, ())))), (r0, (bs, (newWs p.2.2.1 s, ((p.1, ()), ()))))) := by
  have := map_loop (step := L_s_EvenWeights_2) (fun i acc => ((ps, (false, (s, (a, (b, ((p.2.2.1.length : Int), ((i : Int), ()))))))), (r0, ((p, ()), (bs, (acc, ((p.1, ()), ()))))))) (fun acc => ((ps, (false, (a, (b, ())))), (r0, (bs, (acc, ((p.1, ()), ())))))) (wAt p.2.2.1 s) (List.range p.2.2.1.length)
    (fun pre x suf r acc he ha => by
      have hl : (List.range p.2.2.1.length).length = p.2.2.1.length := List.length_range
      have hp : pre.length < p.2.2.1.length := by rw [← hl, he]; simp
      have hx : x = pre.length := by
        have h1 : (List.range p.2.2.1.length)[pre.length]? = some x := by rw [he]; simp
        rw [List.getElem?_range hp] at h1
        exact (Option.some.inj h1).symm
      subst hx
      simp only [L_s_EvenWeights_2]
      rw [ilt_nat hp, ix_nat hp, iadd_nat (by omega), ble_t (by omega)]
      simp only [opt_bind_some, cond_t]
      unfold wAt
      cases feq .f32 s 0
      · cases t_s_l01Finite s
        · cases ieq (pre.length : Int) 0 <;> rfl
        · rfl
      · cases ieq (pre.length : Int) 0 <;> rfl)
    (fun r acc => by simp only [L_s_EvenWeights_2, List.length_range, ilt_self, cond_f]) (by rw [List.length_range]; omega)
  exact this

theorem i_even_inner (s : Nat) (ps : List dSkinPoint) (a b : Int) (r0 : List dSkinPoint) (p : dSkinPoint) (h : p.2.2.1.length ≤ 1048576) (hs : t_i_isLength s = true) :
    iter L_i_EvenWeights_2 fuel ((s, (ps, (a, (b, (p.2.2.1, ((p.2.2.1.length : Int), (0, ()))))))), (r0, ((p, ()), (List.replicate p.2.2.1.length 0, ())))) = some ((ps, (a, (b, ()))), (r0, ((p, ()), (newWs p.2.2.1 s, ())))) := by
  refine fill_loop (step := L_i_EvenWeights_2) (fun i acc => ((s, (ps, (a, (b, (p.2.2.1, ((p.2.2.1.length : Int), ((i : Int), ()))))))), (r0, ((p, ()), (acc, ()))))) (fun acc => ((ps, (a, (b, ()))), (r0, ((p, ()), (acc, ()))))) (wAt p.2.2.1 s) p.2.2.1.length
    (fun r i acc hi ha => ?_) (fun r acc ha => by simp only [L_i_EvenWeights_2, ilt_self, cond_f]) (by omega) _ (by simp)
  simp only [L_i_EvenWeights_2]
  rw [ilt_nat hi, ix_nat hi, ix_nat (show i < acc.length by omega), iadd_nat (by omega)]
  simp only [opt_bind_some, cond_t]
  have e : wAt p.2.2.1 s i = fdiv .f32 (p.2.2.1.getD i 0) s := by
    unfold t_i_isLength at hs
    rw [se_IsFinite] at hs
    unfold wAt
    cases hf : t_s_l01Finite s
    · rw [hf] at hs; cases hs
    · rw [hf, cond_t, bnot_T] at hs
      rw [hs]; rfl
  rw [e]

theorem even_else (ws : List Nat) (s : Nat) (h : 1 ≤ ws.length) (hs : t_i_isLength s = false) : (List.replicate ws.length 0).set 0 1065353216 = newWs ws s := by
  unfold newWs
  apply List.ext_getElem?
  intro j
  have e : ∀ j, wAt ws s j = bif ieq (j : Int) 0 then 1065353216 else 0 := fun j => by
    unfold t_i_isLength at hs
    rw [se_IsFinite] at hs
    unfold wAt
    cases hz : feq .f32 s 0
    · cases hf : t_s_l01Finite s
      · rfl
      · rw [hf, hz] at hs; cases hs
    · rfl
  by_cases hj : j < ws.length
  · rw [List.getElem?_map, List.getElem?_range hj, Option.map_some, e]
    by_cases h0 : j = 0
    · subst h0
      rw [List.getElem?_set_self (by simpa using hj)]; rfl
    · rw [List.getElem?_set_ne (Ne.symm h0), List.getElem?_replicate, if_pos hj, ieq_f (by omega)]; rfl
  · rw [List.getElem?_eq_none (by simp; omega), List.getElem?_eq_none (by simp; omega)]

def sumV (l : List Nat) : Nat := (g_s_l01Sum l).getD 0
theorem c_sumV {l : List Nat} (h : l.length < 4611686018427387904) : g_s_l01Sum l = some (sumV l) := by
  obtain ⟨y, hy, _⟩ := rt_sum l h
  unfold sumV
  rw [hy]; rfl
def evenPt (p : dSkinPoint) : dSkinPoint := (p.1, (p.2.1, (newWs p.2.2.1 (sumV p.2.2.1), ())))
theorem evenPt_z (p : dSkinPoint) : z_SkinPoint (evenPt p) = z_SkinPoint p := by
  have hz : ∀ l : List Nat, szL z_F32 l = l.length := szL_zero
  unfold z_SkinPoint evenPt
  rw [hz, hz, newWs_len]
theorem map_even_z : ∀ l : List dSkinPoint, szL z_SkinPoint (l.map evenPt) = szL z_SkinPoint l
  | [] => rfl
  | p :: l => by simp only [List.map_cons, szL, evenPt_z, map_even_z l]

theorem point_T {p : dSkinPoint} (h : t_s_l09Point p = true) : (1 ≤ p.2.1.length ∧ p.2.1.length ≤ 4) ∧ p.2.2.1.length = p.2.1.length := by
  unfold t_s_l09Point at h
  simp only [bif_T, ile_T, ieq_T, reduceCtorEq, and_false, or_false] at h
  omega

theorem take_map_succ {α β : Type} (f : α → β) (l : List α) (i : Nat) (z : α) (h : i < l.length) : (l.take (i + 1)).map f = (l.take i).map f ++ [f (l.getD i z)] := by
  rw [List.take_add_one, List.getD_eq_getElem?_getD, List.getElem?_eq_getElem h, List.map_append]
  rfl

theorem s_even_outer (ps : List dSkinPoint) (h : ps.length ≤ 24) :
    Ret (iter L_s_EvenWeights_1 fuel ((ps, (false, ((ps.length : Int), (0, ())))), ([], ()))) fun o => (o.1 = false → (∀ j, j < ps.length → t_s_l09Point (ps.getD j zSkinPoint) = true) ∧ o.2.2.1 = ps.map evenPt) ∧ (o.1 = true → o.2.1.1 = false ∧ ∃ j, j < ps.length ∧ t_s_l09Point (ps.getD j zSkinPoint) = false) := by
  refine Ret.iter (fun n d => ∃ i : Nat, i ≤ ps.length ∧ n = ps.length - i ∧ (∀ j, j < i → t_s_l09Point (ps.getD j zSkinPoint) = true) ∧ d = ((ps, (false, ((ps.length : Int), ((i : Int), ())))), ((ps.take i).map evenPt, ()))) _ ?_ fuel ps.length _ ⟨0, by omega, by omega, fun j hj => by omega, rfl⟩ (by unfold fuel; omega)
  rintro r n d ⟨i, hi, hn, hf, rfl⟩ ih
  simp only [L_s_EvenWeights_1]
  refine Ret.cond (fun hc => ?_) fun hc => Ret.pure ⟨fun _ => ⟨fun j hj => hf j (by (simp only [ilt_T, ilt_F, ile_T, ile_F, ieq_T, ieq_F, bnot_T, bnot_F, ble_T, ble_F, nz_T, nz_F, nonneg_T, nonneg_F] at hc); omega), ?_⟩, nofun⟩
  · (simp only [ilt_T, ilt_F, ile_T, ile_F, ieq_T, ieq_F, bnot_T, bnot_F, ble_T, ble_F, nz_T, nz_F, nonneg_T, nonneg_F] at hc)
    rw [ix_nat (show i < ps.length by omega), opt_bind_some]
    refine Ret.cond (fun hp => Ret.pure ⟨nofun, fun _ => ⟨rfl, i, by omega, by rw [bnot_T] at hp; exact hp⟩⟩) fun hp => ?_
    rw [bnot_F] at hp
    have hl := point_T hp
    rw [c_sumV (by omega), opt_bind_some, c_s_l00Own _ (by omega), opt_bind_some, s_even_inner _ _ _ _ _ _ _ (by omega), opt_bind_some]
    dsimp only
    rw [ble_t (by simp; omega), cond_t, iadd_nat (by omega)]
    refine ih (n - 1) _ (by omega) ⟨i + 1, by omega, by omega, fun j hj => ?_, ?_⟩
    · rcases Nat.lt_or_ge j i with h1 | h1
      · exact hf j h1
      · rw [show j = i by omega]; exact hp
    · rw [take_map_succ evenPt ps i zSkinPoint (by omega)]; rfl
  · (simp only [ilt_T, ilt_F, ile_T, ile_F, ieq_T, ieq_F, bnot_T, bnot_F, ble_T, ble_F, nz_T, nz_F, nonneg_T, nonneg_F] at hc)
    show (ps.take i).map evenPt = _
    rw [show i = ps.length by omega, List.take_length]

theorem i_even_outer (ps : List dSkinPoint) (h : ps.length ≤ 24) (hp : ∀ j, j < ps.length → t_s_l09Point (ps.getD j zSkinPoint) = true) :
    iter L_i_EvenWeights_1 fuel ((ps, ((ps.length : Int), (0, ()))), ([], ())) = some ((), (ps.map evenPt, ())) := by
  refine map_loop (step := L_i_EvenWeights_1) (fun i acc => ((ps, ((ps.length : Int), ((i : Int), ()))), (acc, ()))) (fun acc => ((), (acc, ()))) evenPt ps (fun pre x suf r acc he ha => ?_) (fun r acc => by simp only [L_i_EvenWeights_1, ilt_self, cond_f]) (by omega)
  have hpl : pre.length < ps.length := by rw [he]; simp
  have hx : ps.getD pre.length zSkinPoint = x := by rw [he]; exact getD_mid ..
  have hpx := hp _ hpl
  rw [hx] at hpx
  have hl := point_T hpx
  simp only [L_i_EvenWeights_1]
  rw [ilt_nat hpl, ix_nat hpl, iadd_nat (by omega)]
  simp only [opt_bind_some, cond_t, hx]
  rw [se_sum, c_sumV (by omega), opt_bind_some, mkOk_t (by omega) (by omega) (by omega), cond_t]
  cases hs : t_i_isLength (sumV x.2.2.1)
  · rw [cond_f, ix_ok (by omega) (by simp; omega), opt_bind_some, c_Clone _ (by omega), opt_bind_some, ble_t (by simp; omega), cond_t, show (0 : Int).toNat = 0 from rfl, even_else _ _ (by omega) hs]
    rfl
  · rw [cond_t, i_even_inner _ _ _ _ _ _ (by omega) hs, opt_bind_some]
    dsimp only
    rw [c_Clone _ (by omega), opt_bind_some, ble_t (by simp; omega), cond_t, iadd_nat (by omega)]
    rfl

theorem c_contains_held (ps : List dSkinPoint) (h : ps.length ≤ 24) : g_slices_ContainsFunc_i_SkinPoint_i_SkinPoint ps () = some (!(allFrom (fun j => t_s_l09Point (ps.getD j zSkinPoint)) 0 ps.length)) := by
  unfold g_slices_ContainsFunc_i_SkinPoint_i_SkinPoint g_slices_IndexFunc_i_SkinPoint_i_SkinPoint
  simp only [opt_bind_assoc, opt_bind_cond, opt_bind_some]
  exact contains_of (step := L_slices_IndexFunc_i_SkinPoint_i_SkinPoint_1) (fun i => ((ps, (0, ((ps.length : Int), ((i : Int), ())))), ())) 0 (fun j => t_s_l09Point (ps.getD j zSkinPoint)) ps.length
    (fun j h3 r => by
      simp only [L_slices_IndexFunc_i_SkinPoint_i_SkinPoint_1]
      rw [ilt_nat h3, ix_nat h3, iadd_nat (by omega), opt_bind_some, cond_t, show t_i_EvenWeights_1 (ps.getD j zSkinPoint) = !(t_s_l09Point (ps.getD j zSkinPoint)) from rfl, bif_not])
    (fun r => by simp only [L_slices_IndexFunc_i_SkinPoint_i_SkinPoint_1, ilt_self, cond_f]) (by omega)

theorem e_EvenWeights (ps : List dSkinPoint) (h : (szL z_SkinPoint ps : Int) ≤ 1048576) (hok : okPs [.ro false (.slice tSkinPoint)] (ps, ())) : Same (g_s_EvenWeights ps) (g_i_EvenWeights ps) fun y => szL z_SkinPoint y.1 ≤ 1048576 := by
  unfold g_s_EvenWeights g_i_EvenWeights
  have hn : szL z_SkinPoint [] ≤ 1048576 := by simp [szL]
  cases h1 : ilt 24 (ps.length : Int)
  rotate_left
  · exact Same.pure hn
  (simp only [ilt_T, ilt_F, ile_T, ile_F, ieq_T, ieq_F, bnot_T, bnot_F, ble_T, ble_F, nz_T, nz_F, nonneg_T, nonneg_F] at h1)
  rw [cond_f, cond_f, c_contains_held ps (by omega), opt_bind_some, List.append_nil]
  obtain ⟨o, ho, h2, h3⟩ := s_even_outer ps (by omega)
  rw [ho, opt_bind_some]
  cases hb : o.1
  · obtain ⟨h4, h5⟩ := h2 hb
    rw [allFrom_of (fun j _ hj => h4 j (by omega)), bnot_t, cond_f, cond_f, i_even_outer ps (by omega) h4, opt_bind_some, h5]
    exact Same.pure (by dsimp only; rw [map_even_z]; omega)
  · obtain ⟨h4, j, hj, h5⟩ := h3 hb
    have : allFrom (fun j => t_s_l09Point (ps.getD j zSkinPoint)) 0 ps.length = false := by
      cases hx : allFrom (fun j => t_s_l09Point (ps.getD j zSkinPoint)) 0 ps.length
      · rfl
      · have := allFrom_T hx j (Nat.zero_le _) (by omega)
        rw [h5] at this; cases this
    rw [this, bnot_f, cond_t, cond_t, h4]
    exact Same.pure hn
end Go.Fw
