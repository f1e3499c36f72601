/- The law of springs: goals that are cut anywhere, a point as three springs, flushed numbers. No condition. -/
import Derived.Test.YtalhiopcegnobaaSDraw1
set_option linter.unusedVariables false
set_option linter.unusedSimpArgs false
namespace Go.Fw

def placesOf : dTurn → List Nat → List Nat
  | _, [] => []
  | s, g :: l => (stepOf s g).1 :: placesOf (stepOf s g) l
def endOf : dTurn → List Nat → dTurn
  | s, [] => s
  | s, g :: l => endOf (stepOf s g) l
theorem placesOf_append : ∀ (a b : List Nat) (s : dTurn), placesOf s (a ++ b) = placesOf s a ++ placesOf (endOf s a) b
  | [], b, s => rfl
  | g :: a, b, s => by simp only [List.cons_append, placesOf, endOf, placesOf_append a b]
theorem endOf_append : ∀ (a b : List Nat) (s : dTurn), endOf s (a ++ b) = endOf (endOf s a) b
  | [], b, s => rfl
  | g :: a, b, s => by simp only [List.cons_append, endOf, endOf_append a b]
theorem placesOf_length : ∀ (l : List Nat) (s : dTurn), (placesOf s l).length = l.length
  | [], s => rfl
  | g :: l, s => by simp [placesOf, placesOf_length l]

theorem run_loop (b1 : dTurn) (l : List Nat) (hl : l.length ≤ 256) : ∀ (k i N : Nat) (s : dTurn) (r : List Nat), i + k = l.length → r.length ≤ i → k < N →
    iter L_i_RunSpring_1 N ((l, ((l.length : Int), ((i : Int), ()))), ((s, ()), ((b1, ()), (r, ())))) = some ((), ((endOf s (l.drop i), ()), ((b1, ()), (r ++ placesOf s (l.drop i), ()))))
  | 0, i, N, s, r, hi, hr, hN => by
    obtain _ | N := N
    · omega
    rw [iter_succ, show i = l.length by omega, List.drop_length]
    simp only [L_i_RunSpring_1, ilt_self, cond_f, endOf, placesOf, List.append_nil]
  | k + 1, i, N, s, r, hi, hr, hN => by
    obtain _ | N := N
    · omega
    have hlt : i < l.length := by omega
    rw [iter_succ]
    simp only [L_i_RunSpring_1]
    rw [ilt_nat hlt, ix_nat hlt, iadd_nat (by omega), ble_t (by omega)]
    simp only [opt_bind_some, cond_t]
    rw [c_i_StepSpring]
    simp only [opt_bind_some]
    have hd : l.drop i = l.getD i 0 :: l.drop (i + 1) := by
      rw [List.drop_eq_getElem_cons hlt]
      simp [hlt]
    rw [run_loop b1 l hl k (i + 1) N _ _ (by omega) (by simp; omega) (by omega), hd]
    simp only [endOf, placesOf, List.append_assoc, List.singleton_append]

theorem c_i_RunSpring (s : dTurn) (l : List Nat) (hl : l.length ≤ 256) : g_i_RunSpring s l = some (placesOf s l, (endOf s l, (true, ()))) := by
  unfold g_i_RunSpring
  have := run_loop (0, (0, (0, (0, ())))) l hl l.length 0 fuel s [] (by omega) (by simp) (by unfold fuel; omega)
  rw [show ((0 : Nat) : Int) = 0 from rfl, List.drop_zero, List.nil_append] at this
  rw [ilt_f (by omega), cond_f, this, opt_bind_some]

theorem stepOf_okT {s : dTurn} (g : Nat) (h : okT s) : okT (stepOf s g) := ⟨flush_okF (fadd_okF _ _ _), flush_okF (fmul_okF _ _ _), h.2.2.1, h.2.2.2⟩
theorem endOf_okT : ∀ (l : List Nat) {s : dTurn}, okT s → okT (endOf s l)
  | [], s, h => h
  | g :: l, s, h => endOf_okT l (stepOf_okT g h)
theorem placesOf_okF : ∀ (l : List Nat) {s : dTurn}, okT s → ∀ x ∈ placesOf s l, okF .f32 x
  | [], s, h, x, hx => by cases hx
  | g :: l, s, h, x, hx => by
    rcases List.mem_cons.1 hx with rfl | hx
    · exact (stepOf_okT g h).1
    · exact placesOf_okF l (stepOf_okT g h) x hx

theorem same_self (x : Nat) : same x x = true := same_iff.2 rfl
theorem c_same_self {x : Nat} (h : okF .f32 x) : g_i_SameNumber x x = some true := by rw [c_i_SameNumber h h, same_self]
theorem c_SameSpring_self {s : dTurn} (h : okT s) : g_i_SameSpring s s = some true := by
  unfold g_i_SameSpring
  rw [c_same_self h.1, c_same_self h.2.1, c_same_self h.2.2.1, c_same_self h.2.2.2]; rfl

theorem c_r8Same_self {l : List Nat} (h : ∀ x ∈ l, okF .f32 x) (hl : l.length < 4611686018427387904) : g_w_r8Same l l = some true := by
  unfold g_w_r8Same
  rw [ieq_self, bnot_t, cond_f]
  have := all_loop (step := L_w_r8Same_1) (fun i => ((l, (l, (false, ((i : Int), ())))), ())) (false, ((false, ()), ())) (true, ((false, ()), ())) (fun _ => true) l.length
    (fun j hj r => by
      simp only [L_w_r8Same_1]
      rw [ilt_nat hj, ix_nat hj, iadd_nat (by omega)]
      simp only [opt_bind_some, cond_t]
      rw [c_same_self (getD_ok h hj)]; rfl)
    (fun r => by simp only [L_w_r8Same_1, ilt_self, cond_f]) hl
  rw [show ((0 : Nat) : Int) = 0 from rfl] at this
  rw [this, allFrom_of (fun _ _ _ => rfl)]
  rfl

/-- What is flushed is not subnormal. -/
theorem flush_sub {x : Nat} (h : okF .f32 x) : t_i_IsSubnormal (flush x) = false := by
  rw [c_i_IsSubnormal (flush_okF h)]
  unfold flush
  cases hs : sub32 x
  · rw [cond_f]; exact hs
  · rw [cond_t]
    unfold sub32
    rw [Bool.and_eq_false_iff]
    left
    rw [decide_eq_false_iff_not]
    omega

theorem law_loop (code more : List Int) (b0 : dTurn) (l : List Nat) (pl : List Nat) (hl : l.length ≤ 12) (hp : pl.length = l.length) : ∀ (k i N : Nat) (s : dTurn), i + k = l.length → k < N → okT s → pl.drop i = placesOf s (l.drop i) →
    iter L_w_FnSprings_1 N ((code, (more, (false, ((i : Int), ())))), ((b0, ()), (l, (pl, ((s, ()), ()))))) = some (false, ((code, (more, (false, ()))), ((b0, ()), ())))
  | 0, i, N, s, hi, hN, hs, he => by
    obtain _ | N := N
    · omega
    rw [iter_succ, show i = l.length by omega]
    simp only [L_w_FnSprings_1, ilt_self, cond_f]
  | k + 1, i, N, s, hi, hN, hs, he => by
    obtain _ | N := N
    · omega
    have hlt : i < l.length := by omega
    have hlt2 : i < pl.length := by omega
    have hd : l.drop i = l.getD i 0 :: l.drop (i + 1) := by
      rw [List.drop_eq_getElem_cons hlt]; simp [hlt]
    have hd2 : pl.drop i = pl.getD i 0 :: pl.drop (i + 1) := by
      rw [List.drop_eq_getElem_cons hlt2]; simp [hlt2]
    rw [hd, hd2] at he
    simp only [placesOf, List.cons.injEq] at he
    obtain ⟨he1, he2⟩ := he
    have hst := stepOf_okT (l.getD i 0) hs
    rw [iter_succ]
    simp only [L_w_FnSprings_1]
    rw [ilt_nat hlt, ix_nat hlt, ix_nat hlt2, iadd_nat (by omega), cond_t, opt_bind_some, c_i_StepSpring, opt_bind_some, opt_bind_some, he1, c_same_self hst.1, opt_bind_some]
    have h1 : t_i_IsSubnormal (stepOf s (l.getD i 0)).1 = false := flush_sub (fadd_okF _ _ _)
    have h2 : t_i_IsSubnormal (stepOf s (l.getD i 0)).2.1 = false := flush_sub (fmul_okF _ _ _)
    rw [h1, h2]
    simp only [bnot_t, cond_f]
    exact law_loop code more b0 l pl hl hp k (i + 1) N _ (by omega) (by omega) hst he2

theorem c_point {v u : dVec} {a b : Nat} : g_i_StepPoint (v, (u, (a, (b, ())))) u = some (((stepOf (v.1, (u.1, (a, (b, ())))) u.1).1, ((stepOf (v.2.1, (u.2.1, (a, (b, ())))) u.2.1).1, ((stepOf (v.2.2.1, (u.2.2.1, (a, (b, ())))) u.2.2.1).1, ()))),
    (((stepOf (v.1, (u.1, (a, (b, ())))) u.1).2.1, ((stepOf (v.2.1, (u.2.1, (a, (b, ())))) u.2.1).2.1, ((stepOf (v.2.2.1, (u.2.2.1, (a, (b, ())))) u.2.2.1).2.1, ()))), (a, (b, ())))) := by
  unfold g_i_StepPoint g_i_drawn
  simp only [c_i_FlushNumber (fmul_okF _ _ _), c_i_FlushNumber (fadd_okF _ _ _), opt_bind_some]
  rfl

theorem r8Long_F {code more : List Int} (h : t_w_r8Long code more = false) : code.length ≤ 4294967296 ∧ more.length ≤ 4294967296 := by
  unfold t_w_r8Long at h
  cases h1 : ilt 48 (code.length : Int)
  · rw [h1, cond_f] at h
    (simp only [ilt_T, ilt_F, ile_T, ile_F, ieq_T, ieq_F, bnot_T, bnot_F, ble_T, ble_F, nz_T, nz_F, nonneg_T, nonneg_F] at h1)
    (simp only [ilt_T, ilt_F, ile_T, ile_F, ieq_T, ieq_F, bnot_T, bnot_F, ble_T, ble_F, nz_T, nz_F, nonneg_T, nonneg_F] at h)
    omega
  · rw [h1] at h; cases h

theorem v_FnSprings (code more : List Int) (hok : okPs [.ro false (.slice (.int .u8)), .ro false (.slice (.int .u8))] (code, more, ())) : g_w_FnSprings code more = some true := by
  have hc : ∀ x ∈ code, 0 ≤ x ∧ x ≤ 255 := fun x hx => hok.1.2 x hx
  have hm : ∀ x ∈ more, 0 ≤ x ∧ x ≤ 255 := fun x hx => hok.2.1.2 x hx
  unfold g_w_FnSprings
  cases hL : t_w_r8Long code more
  rotate_left
  · rfl
  obtain ⟨hcl, hml⟩ := r8Long_F hL
  obtain ⟨s, e1, hs⟩ := rt_R8Spring hc hcl
  obtain ⟨l, e2, hl, hlo⟩ := rt_R8Goals 12 hm hml (by omega)
  obtain ⟨v, e3, hv⟩ := rt_R8Small hc hcl
  obtain ⟨u, e4, hu⟩ := rt_R8Small hm hml
  obtain ⟨at', e5, ha1, ha2⟩ := rt_r8At (code := code) 40 (l.length + 1) hc (by omega)
  obtain ⟨n, rfl⟩ := Int.eq_ofNat_of_zero_le ha1
  rw [show ((12 : Nat) : Int) = 12 from rfl] at e2
  rw [show ((40 : Nat) : Int) = 40 from rfl] at e5
  have hn : n ≤ l.length := by omega
  rw [cond_f, e1, opt_bind_some, e2, opt_bind_some, iadd_nat (by omega), e5]
  simp only [opt_bind_some]
  rw [c_i_RunSpring s l (by omega), decide_eq_true ha1, decide_eq_true (show (n : Int) ≤ (l.length : Int) by omega)]
  simp only [opt_bind_some, Bool.and_self, cond_t, Int.toNat_natCast, List.drop_zero]
  rw [c_i_RunSpring s (l.take n) (by simp; omega)]
  simp only [opt_bind_some]
  rw [List.take_of_length_le (show (l.drop n).length ≤ l.length - n by simp), c_i_RunSpring _ (l.drop n) (by simp; omega)]
  have hcut : l.take n ++ l.drop n = l := List.take_append_drop n l
  have hpl : placesOf s (l.take n) ++ placesOf (endOf s (l.take n)) (l.drop n) = placesOf s l := by rw [← placesOf_append, hcut]
  have hend : endOf (endOf s (l.take n)) (l.drop n) = endOf s l := by rw [← endOf_append, hcut]
  simp only [opt_bind_some, bnot_t, cond_f, hend, List.nil_append, hpl, placesOf_length, ieq_self]
  rw [c_SameSpring_self (endOf_okT l hs)]
  simp only [opt_bind_some, bnot_t, cond_f]
  rw [ble_t (by rw [List.length_take]; omega), ble_t (by rw [List.length_take, List.length_drop]; omega)]
  simp only [cond_t]
  rw [c_r8Same_self (placesOf_okF l hs) (by rw [placesOf_length]; omega)]
  simp only [opt_bind_some, bnot_t, cond_f]
  have hloop := law_loop code more s l (placesOf s l) hl (placesOf_length l s) l.length 0 fuel s (by omega) (by unfold fuel; omega) hs rfl
  rw [show ((0 : Nat) : Int) = 0 from rfl] at hloop
  rw [hloop]
  simp only [opt_bind_some, cond_f]
  rw [e3, opt_bind_some, e4, opt_bind_some]
  obtain ⟨s1, s2, a, b, ⟨⟩⟩ := s
  rw [c_point]
  simp only [opt_bind_some]
  rw [c_i_StepSpring]
  simp only [opt_bind_some]
  have hst : okT (stepOf (v.2.1, (u.2.1, (a, (b, ())))) u.2.1) := stepOf_okT _ ⟨hv.2.1, hu.2.1, hs.2.2.1, hs.2.2.2⟩
  rw [c_same_self hst.1, opt_bind_some, cond_t, c_same_self hst.2.1, opt_bind_some, cond_t, c_same_self hs.2.2.1, opt_bind_some]
end Go.Fw
