/- The text of a run. No condition. -/
import Derived.Test.YtmfmdoppjcaedaaGreatDoorVEq1
set_option linter.unusedVariables false
set_option linter.unusedSimpArgs false
namespace Go.Fw

/-! ### decimals -/
def chr (d : Nat) : UInt8 := UInt8.ofNat (48 + d)
def d4 (u : Nat) : List UInt8 :=
  if u < 10 then [chr u] else if u < 100 then [chr (u / 10), chr (u % 10)] else if u < 1000 then [chr (u / 100), chr (u / 10 % 10), chr (u % 10)]
  else [chr (u / 1000), chr (u / 100 % 10), chr (u / 10 % 10), chr (u % 10)]
def dec4 (n : Int) : List UInt8 := if n < 0 then 45 :: d4 n.natAbs else d4 n.toNat

theorem dec_d4 {u : Nat} (h : u < 10000) : Lib.decDigits u = d4 u := by
  unfold d4
  by_cases h1 : u < 10
  · rw [Lib.decDigits, dif_pos h1, if_pos h1]; rfl
  rw [Lib.decDigits, dif_neg h1, if_neg h1]
  by_cases h2 : u < 100
  · rw [Lib.decDigits, dif_pos (by omega), if_pos h2]; rfl
  rw [Lib.decDigits, dif_neg (by omega), if_neg h2]
  by_cases h3 : u < 1000
  · rw [Lib.decDigits, dif_pos (by omega), if_pos h3, show u / 10 / 10 = u / 100 by omega]; rfl
  rw [Lib.decDigits, dif_neg (by omega), if_neg h3, Lib.decDigits, dif_pos (by omega), show u / 10 / 10 / 10 = u / 1000 by omega, show u / 10 / 10 = u / 100 by omega]; rfl
theorem itoa_dec4 {n : Int} (h0 : -1 ≤ n) (h1 : n ≤ 1000) : Lib.itoa n = dec4 n := by
  unfold Lib.itoa dec4
  rw [dec_d4 (by omega), dec_d4 (by omega)]

theorem dec_tab : ∀ k : Nat, k < 1002 → (g_s_l01Dec ((k : Int) - 1)).map (fun s => s.data.toList) = some (dec4 ((k : Int) - 1)) := by decide +kernel

/-- A number of a run. -/
def small (n : Int) : Prop := -1 ≤ n ∧ n ≤ 1000
theorem bytes_ext {a b : ByteArray} (h : a.data.toList = b.data.toList) : a = b := by
  cases a; cases b
  simp only at h
  congr 1
  exact Array.toList_inj.1 h
theorem dec_eq {n : Int} (h : small n) : g_s_l01Dec n = some (itoaB n) := by
  have := dec_tab (n + 1).toNat (by have := h.1; have := h.2; omega)
  rw [show (((n + 1).toNat : Nat) : Int) - 1 = n by have := h.1; omega] at this
  obtain ⟨s, h1, h2⟩ := Option.map_eq_some_iff.1 this
  rw [h1]
  congr 1
  apply bytes_ext
  rw [h2]
  show dec4 n = (Lib.itoa n).toArray.toList
  rw [itoa_dec4 h.1 h.2]
theorem itoaB_size {n : Int} (h : small n) : (itoaB n).size ≤ 5 := by
  show (Lib.itoa n).length ≤ 5
  rw [itoa_dec4 h.1 h.2]
  have : ∀ u, (d4 u).length ≤ 4 := by
    intro u
    unfold d4
    split
    · simp
    split
    · simp
    split <;> simp
  unfold dec4
  split
  · have := this n.natAbs; simp; omega
  · have := this n.toNat; omega

/-! ### texts -/
def comma : ByteArray := ByteArray.mk #[44]
def tailT (out : ByteArray) : List Int → ByteArray
  | [] => out
  | n :: r => tailT (out ++ (comma ++ itoaB n)) r
theorem comma_size : comma.size = 1 := rfl

theorem s_text (list : List Int) (hl : list.length ≤ 6) (hs : ∀ n, n ∈ list → small n) : ∀ (suf pre : List Int) (out : ByteArray) (N : Nat), list = pre ++ suf → out.size + 6 * suf.length ≤ 100 → suf.length < N →
    iter L_s_l01Text_1 N ((list, (out, ((pre.length : Int), ()))), ()) = some ((tailT out suf, ()), ())
  | [], pre, out, N, he, ho, hN => by
    obtain _ | N := N
    · omega
    rw [List.append_nil] at he
    subst he
    rw [iter_succ]
    simp only [L_s_l01Text_1, ilt_self, cond_f, tailT]
  | n :: suf, pre, out, N, he, ho, hN => by
    obtain _ | N := N
    · omega
    have hpl : pre.length < list.length := by rw [he]; simp
    have hx : list.getD pre.length 0 = n := by rw [he]; exact getD_mid ..
    have hn := hs n (by rw [he]; simp)
    have h5 := itoaB_size hn
    have e1 : (comma ++ itoaB n).size = 1 + (itoaB n).size := by rw [ByteArray.size_append, comma_size]
    have e2 : (out ++ (comma ++ itoaB n)).size = out.size + (1 + (itoaB n).size) := by rw [ByteArray.size_append, e1]
    simp only [List.length_cons] at ho hN
    have ih := s_text list hl hs suf (pre ++ [n]) (out ++ (comma ++ itoaB n)) N (by rw [he]; simp) (by omega) (by omega)
    rw [List.length_append] at ih
    rw [iter_succ]
    simp only [L_s_l01Text_1]
    rw [ilt_nat hpl, cond_t, ix_nat hpl, opt_bind_some, hx, dec_eq hn, opt_bind_some, show ByteArray.mk #[44] = comma from rfl, comma_size, e1, ble_t (by omega), cond_t, ble_t (by omega), cond_t, iadd_nat (by omega)]
    exact ih

theorem i_list (list : List Int) (hl : list.length ≤ 6) : ∀ (suf pre : List Int) (N : Nat), list = pre ++ suf → suf.length < N →
    iter L_i_listText_1 N ((list, ((list.length : Int), ((pre.length : Int), ()))), (pre.map itoaB ++ List.replicate suf.length ByteArray.empty, ())) = some ((), (list.map itoaB, ()))
  | [], pre, N, he, hN => by
    obtain _ | N := N
    · omega
    rw [List.append_nil] at he
    subst he
    rw [iter_succ]
    simp only [L_i_listText_1, ilt_self, cond_f, List.length_nil, List.replicate_zero, List.append_nil]
  | n :: suf, pre, N, he, hN => by
    obtain _ | N := N
    · omega
    have hpl : pre.length < list.length := by rw [he]; simp
    have hx : list.getD pre.length 0 = n := by rw [he]; exact getD_mid ..
    have hset : ∀ v : ByteArray, (pre.map itoaB ++ List.replicate (n :: suf).length ByteArray.empty).set pre.length v = (pre.map itoaB ++ [v]) ++ List.replicate suf.length ByteArray.empty := by
      intro v
      rw [List.length_cons, List.replicate_succ]
      have := set_mid (pre := pre.map itoaB) (x := ByteArray.empty) (suf := List.replicate suf.length ByteArray.empty) v
      rw [List.length_map] at this
      rw [this]
      simp
    have ih := i_list list hl suf (pre ++ [n]) N (by rw [he]; simp) (by simp at hN; omega)
    rw [List.length_append, List.map_append] at ih
    rw [iter_succ]
    simp only [L_i_listText_1, g_i_Decimal, g_formatInt]
    rw [ilt_nat hpl, cond_t, ix_nat hpl, opt_bind_some, hx, ieq_self, cond_t, opt_bind_some, opt_bind_some, ix_nat (by simp), opt_bind_some, hset, iadd_nat (by omega)]
    exact ih

theorem tailT_data : ∀ (suf : List Int) (out : ByteArray), (tailT out suf).data.toList = out.data.toList ++ Lib.joinTail [44] ((suf.map itoaB).map (·.data.toList))
  | [], out => by simp [tailT, Lib.joinTail]
  | n :: suf, out => by
    rw [tailT, tailT_data suf]
    simp [Lib.joinTail, comma]

theorem e_text (a : Int) (r : List Int) (hl : r.length ≤ 5) (hs : ∀ n, n ∈ a :: r → small n) : g_s_l01Text (a :: r) = some (joinB ((a :: r).map itoaB) comma) ∧ g_i_listText (a :: r) = some (joinB ((a :: r).map itoaB) comma) := by
  have h5 := itoaB_size (hs a (.head _))
  have hlen : (a :: r).length ≤ 6 := by simp; omega
  have h1 := s_text (a :: r) hlen hs r [a] (itoaB a) fuel rfl (by omega) (by unfold fuel; omega)
  have h2 := i_list (a :: r) hlen (a :: r) [] fuel rfl (by unfold fuel; omega)
  rw [show (([a] : List Int).length : Int) = 1 from rfl] at h1
  rw [show (([] : List Int).length : Int) = 0 from rfl, List.map_nil, List.nil_append] at h2
  have hjl : joinL ((a :: r).map itoaB) comma = (itoaB a).data.toList ++ Lib.joinTail [44] ((r.map itoaB).map (·.data.toList)) := by
    unfold joinL
    rw [List.map_cons, List.map_cons, Lib.join_cons]; rfl
  have hj : tailT (itoaB a) r = joinB ((a :: r).map itoaB) comma := by
    apply bytes_ext
    rw [tailT_data]
    show _ = (joinL ((a :: r).map itoaB) comma).toArray.toList
    rw [hjl]
  have hsz : ∀ (suf : List Int) (out : ByteArray), (∀ n, n ∈ suf → small n) → (tailT out suf).size ≤ out.size + 6 * suf.length := by
    intro suf
    induction suf with
    | nil => intro out _; exact Nat.le_refl _
    | cons n suf ih =>
      intro out hs
      have := ih (out ++ (comma ++ itoaB n)) fun x hx => hs x (.tail _ hx)
      have h5 := itoaB_size (hs n (.head _))
      rw [ByteArray.size_append, ByteArray.size_append, comma_size] at this
      rw [tailT]
      simp only [List.length_cons]
      omega
  have hs2 := hsz r (itoaB a) fun x hx => hs x (.tail _ hx)
  rw [hj] at hs2
  have hs3 : (joinL ((a :: r).map itoaB) comma).length ≤ 4294967296 := by
    have : (joinB ((a :: r).map itoaB) comma).size = (joinL ((a :: r).map itoaB) comma).length := rfl
    omega
  constructor
  · unfold g_s_l01Text
    rw [ieq_f (by simp only [List.length_cons]; omega), cond_f, ix_ok (by omega) (by simp only [List.length_cons]; omega), opt_bind_some, show (0 : Int).toNat = 0 from rfl, show (a :: r).getD 0 0 = a from rfl, dec_eq (hs a (.head _)), opt_bind_some, h1, opt_bind_some, hj]
  · unfold g_i_listText
    rw [mkOk_t (by omega) (by omega) (by omega), cond_t, h2, opt_bind_some]
    unfold g_i_joined g_joinStr
    simp only []
    rw [ieq_f (by simp only [List.length_map, List.length_cons]; omega), cond_f, ble_t (by simp), ble_t (by simp only [List.length_map, List.length_cons]; omega)]
    rw [show ByteArray.mk #[44] = comma from rfl, ble_t hs3]
    rfl

theorem runOK_T {m : dMachine} (hm : machOK m = true) {r : dRun} (h : runOK m r = true) : small r.1 ∧ small r.2.1 ∧ small r.2.2.1 ∧ small r.2.2.2.1 ∧ small r.2.2.2.2.1 ∧ small r.2.2.2.2.2.1 := by
  have hM := machOK_T hm
  have htime : ∀ (st t : Int), 0 ≤ st → st < m.2.1.length → timeOK m st.toNat t = true → 0 ≤ t ∧ t ≤ 1000 := by
    intro st t h0 h1 h2
    have hl := lenOf_le hm (j := st.toNat) (by omega)
    unfold timeOK at h2
    cases hb : (m.2.1.getD st.toNat zState).2.2.1
    · rw [hb, cond_f, l00In_T] at h2; omega
    · rw [hb, cond_t, l00In_T] at h2; omega
  unfold runOK at h
  cases h1 : t_s_l00In r.1 0 ((m.2.1.length : Int) - 1)
  · rw [h1] at h; cases h
  rw [h1, cond_t] at h
  rw [l00In_T] at h1
  cases h2 : timeOK m r.1.toNat r.2.1
  · rw [h2] at h; cases h
  rw [h2, cond_t] at h
  have t1 := htime r.1 r.2.1 h1.1 (by omega) h2
  have s1 : small r.1 := ⟨by omega, by omega⟩
  have s2 : small r.2.1 := ⟨by omega, by omega⟩
  cases h3 : ieq r.2.2.1 (-1)
  · rw [h3, cond_f] at h
    cases h4 : t_s_l00In r.2.2.1 0 ((m.2.1.length : Int) - 1)
    · rw [h4] at h; cases h
    rw [h4, cond_t] at h
    rw [l00In_T] at h4
    cases h5 : timeOK m r.2.2.1.toNat r.2.2.2.1
    · rw [h5] at h; cases h
    rw [h5, cond_t] at h
    have t2 := htime r.2.2.1 r.2.2.2.1 h4.1 (by omega) h5
    cases h6 : t_s_l00In r.2.2.2.2.1 1 100
    · rw [h6] at h; cases h
    rw [h6, cond_t, l00In_T] at h
    rw [l00In_T] at h6
    exact ⟨s1, s2, ⟨by omega, by omega⟩, ⟨by omega, by omega⟩, ⟨by omega, by omega⟩, ⟨by omega, by omega⟩⟩
  · rw [h3, cond_t] at h
    cases h4 : ieq r.2.2.2.1 0
    · rw [h4] at h; cases h
    rw [h4, cond_t] at h
    cases h5 : ieq r.2.2.2.2.1 0
    · rw [h5] at h; cases h
    rw [h5, cond_t] at h
    (simp only [ilt_T, ilt_F, ile_T, ile_F, ieq_T, ieq_F, bnot_T, bnot_F, ble_T, ble_F, nz_T, nz_F, nonneg_T, nonneg_F] at h3)
    (simp only [ilt_T, ilt_F, ile_T, ile_F, ieq_T, ieq_F, bnot_T, bnot_F, ble_T, ble_F, nz_T, nz_F, nonneg_T, nonneg_F] at h4)
    (simp only [ilt_T, ilt_F, ile_T, ile_F, ieq_T, ieq_F, bnot_T, bnot_F, ble_T, ble_F, nz_T, nz_F, nonneg_T, nonneg_F] at h5)
    (simp only [ilt_T, ilt_F, ile_T, ile_F, ieq_T, ieq_F, bnot_T, bnot_F, ble_T, ble_F, nz_T, nz_F, nonneg_T, nonneg_F] at h)
    exact ⟨s1, s2, ⟨by omega, by omega⟩, ⟨by omega, by omega⟩, ⟨by omega, by omega⟩, ⟨by omega, by omega⟩⟩

theorem seq_refl (s : ByteArray) : seq s s = true := by simp [seq]

theorem e_StateText (m : dMachine) (r : dRun) (h : (z_Machine m : Int) ≤ 1048576) (hok : okPs [.ro true tMachine, .ro true tRun] (m, r, ())) : Same (g_s_StateText m r) (g_i_StateText m r) fun _ => True := by
  unfold g_s_StateText g_i_StateText
  rw [c_s_l07Is (by omega), c_i_IsRun (by omega), opt_bind_some, opt_bind_some]
  cases hm : machOK m
  · exact Same.pure trivial
  rw [c_s_l07Run hm]
  simp only [bnot_t, cond_f, cond_t, opt_bind_some]
  cases hr : runOK m r
  · exact Same.pure trivial
  obtain ⟨s1, s2, s3, s4, s5, s6⟩ := runOK_T hm hr
  obtain ⟨e1, e2⟩ := e_text r.1 [r.2.1, r.2.2.1, r.2.2.2.1, r.2.2.2.2.1, r.2.2.2.2.2.1] (by simp) (by
    intro n hn
    simp only [List.mem_cons, List.not_mem_nil, or_false] at hn
    rcases hn with rfl | rfl | rfl | rfl | rfl | rfl <;> assumption)
  unfold g_s_l07Text
  rw [e1, e2]
  exact Same.pure trivial
end Go.Fw
