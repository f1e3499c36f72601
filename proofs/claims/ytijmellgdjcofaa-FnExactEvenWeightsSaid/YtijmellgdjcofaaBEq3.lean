/- The reference's functions and the program's compute the same: how far a string is stretched. No condition. -/
import Derived.Test.YtijmellgdjcofaaBEq2
import Derived.Test.YtijmellgdjcofaaFwD
set_option linter.unusedVariables false
set_option linter.unusedSimpArgs false
namespace Go.Fw

theorem andNot31 {x : Nat} (h : x < 2 ^ 32) : iconv .u32 (iandNot .i64 (x : Int) 2147483648) = ((x % 2 ^ 31 : Nat) : Int) := by
  unfold iandNot iconv
  have e1 : BitVec.ofInt IntKind.i64.bits (x : Int) = BitVec.ofNat 64 x := by
    show BitVec.ofInt 64 (x : Int) = _
    exact BitVec.ofInt_natCast 64 x
  have e2 : BitVec.ofInt IntKind.i64.bits 2147483648 = BitVec.ofNat 64 2147483648 := by
    show BitVec.ofInt 64 2147483648 = _
    decide
  have key : (BitVec.ofInt IntKind.i64.bits (x : Int) &&& ~~~(BitVec.ofInt IntKind.i64.bits 2147483648)).toNat = x % 2 ^ 31 := by
    rw [e1, e2]
    show (BitVec.ofNat 64 x &&& ~~~BitVec.ofNat 64 2147483648).toNat = x % 2 ^ 31
    rw [BitVec.toNat_and, BitVec.toNat_ofNat, Nat.mod_eq_of_lt (by omega), show (~~~BitVec.ofNat 64 2147483648).toNat = 2 ^ 64 - 1 - 2 ^ 31 by decide]
    apply Nat.eq_of_testBit_eq
    intro i
    rw [Nat.testBit_and, Nat.testBit_mod_two_pow]
    by_cases hi : i < 31
    · rw [show (2 ^ 64 - 1 - 2 ^ 31 : Nat).testBit i = true by
        have : ∀ i : Fin 31, (2 ^ 64 - 1 - 2 ^ 31 : Nat).testBit i = true := by decide
        exact this ⟨i, hi⟩]
      simp [hi]
    · by_cases h31 : i = 31
      · subst h31
        rw [show (2 ^ 64 - 1 - 2 ^ 31 : Nat).testBit 31 = false by decide]
        simp
      · rw [Nat.testBit_lt_two_pow (Nat.lt_of_lt_of_le h (Nat.pow_le_pow_right (by omega) (show 32 ≤ i by omega)))]
        simp
  rw [key]
  have h1 : IntKind.i64.wrap ((x % 2 ^ 31 : Nat) : Int) = ((x % 2 ^ 31 : Nat) : Int) := wrap_i64 (by omega) (by omega)
  rw [h1]
  apply Eq.trans (b := ((x % 2 ^ 31 : Nat) : Int) % 4294967296)
  · simp [IntKind.wrap, IntKind.bits, IntKind.signed]
  · omega

theorem c_s_l02Size {x : Nat} (hx : okF .f32 x) : g_s_l02Size x = some (abs32 x) := by
  unfold g_s_l02Size
  rw [c_s_l01Bits hx, opt_bind_some]
  unfold t_s_l01From t_float32frombits abs32
  rw [andNot31 hx.lt32, nat_int_toNat]
theorem c_i_size {x : Nat} (hx : okF .f32 x) : g_i_size x = some (abs32 x) := by
  unfold g_i_size t_mathabs
  rw [abs_narrow hx]; rfl
theorem c_i_greater (a b : Nat) : t_i_greater a b = bif fgt .f32 b a then b else a := rfl

theorem e_lengths (p : List dVec) (h1 : 1 ≤ p.length) (h2 : p.length ≤ 64) : Same (g_s_l04Lengths p) (g_i_distances p) fun y => y.length = p.length - 1 ∧ ∀ x ∈ y, okF .f32 x := by
  unfold g_s_l04Lengths g_i_distances
  rw [isub_ok (by omega) (by omega), mkOk_t (by omega) (by omega) (by omega), cond_t, show ((p.length : Int) - 1).toNat = p.length - 1 by omega, List.length_replicate]
  refine Ret2.same (Ret2.bind' (Ret2.iter (fun n d e => ∃ (i : Nat) (r : List Nat), i ≤ p.length - 1 ∧ n = p.length - 1 - i ∧ r.length = i ∧ (∀ x ∈ r, okF .f32 x) ∧ d = ((p, ((i : Int) + 1, ())), (r, ())) ∧ e = ((p, (((p.length - 1 : Nat) : Int), ((i : Int), ()))), (r ++ List.replicate (p.length - 1 - i) 0, ())))
    (fun o o' => o.2.1 = o'.2.1 ∧ o.2.1.length = p.length - 1 ∧ ∀ x ∈ o.2.1, okF .f32 x) ?_ fuel (p.length - 1) _ _ ⟨0, [], by omega, by omega, rfl, by simp, rfl, rfl⟩ (by unfold fuel; omega)) fun o o' h => Ret2.pure ⟨h.1, h.2⟩)
  rintro f f' n d e ⟨i, r, hi, hn, hr, hf, rfl, rfl⟩ ih
  simp only [L_s_l04Lengths_1, L_i_distances_1]
  by_cases hc : i < p.length - 1
  · rw [ilt_t (a := (i : Int) + 1) (by omega), ilt_t (a := (i : Int)) (by omega), ix_ok (i := (i : Int) + 1) (by omega) (by omega), isub_ok (by omega) (by omega), ix_ok (i := (i : Int) + 1 - 1) (by omega) (by omega), iadd_ok (a := (i : Int) + 1) (by omega) (by omega), iadd_ok (by omega) (by omega), ix_ok (i := (i : Int) + 1) (by omega) (by omega), ix_nat (show i < p.length by omega), ix_nat (show i < (r ++ List.replicate (p.length - 1 - i) (0 : Nat)).length by simp; omega), ble_t (by omega)]
    simp only [cond_t, opt_bind_some, se_LongOf, se_LessVectors]
    rw [show ((i : Int) + 1 - 1).toNat = i by omega]
    refine Ret2.bind' (Same.two (Same.of rfl (rt_l01Long _))) ?_
    rintro y _ ⟨rfl, hy⟩
    refine ih (n - 1) _ _ (by omega) ⟨i + 1, r ++ [y], by omega, by omega, by simp; omega, fun x hx => ?_, ?_, ?_⟩
    · rcases List.mem_append.1 hx with h | h
      · exact hf x h
      · rw [List.mem_singleton.1 h]; exact hy
    · rw [show ((i + 1 : Nat) : Int) + 1 = (i : Int) + 1 + 1 by omega]
    · rw [show i = r.length from hr.symm, show p.length - 1 - r.length = (p.length - 1 - (r.length + 1)) + 1 by omega, List.replicate_succ, set_mid, List.append_assoc]
      rfl
  · rw [ilt_f (by omega), ilt_f (by omega)]
    have : p.length - 1 - i = 0 := by omega
    exact Ret2.pure ⟨by rw [this]; simp, by dsimp only; omega, hf⟩

theorem se_StretchOf_loop (s : dString) (r : List Nat) (hs : ∀ x ∈ s.2.2.2.1, okF .f32 x) (hr : r.length = s.2.2.2.1.length) (hl : r.length ≤ 64) (hf : ∀ x ∈ r, okF .f32 x) :
    Ret2 (iter L_s_StretchOf_1 fuel ((0, (0, ())), ((s, ()), (r, ())))) (iter L_i_StretchOf_1 fuel ((0, ((r.length : Int), (0, ()))), ((s, ()), (r, ())))) fun o o' => o.1.1 = o'.1.1 := by
  refine Ret2.iter (fun n d e => ∃ (i m : Nat), i ≤ r.length ∧ n = r.length - i ∧ d = ((m, ((i : Int), ())), ((s, ()), (r, ()))) ∧ e = ((m, ((r.length : Int), ((i : Int), ()))), ((s, ()), (r, ())))) _ ?_ fuel r.length _ _ ⟨0, 0, by omega, by omega, rfl, rfl⟩ (by unfold fuel; omega)
  rintro f f' n d e ⟨i, m, hi, hn, rfl, rfl⟩ ih
  simp only [L_s_StretchOf_1, L_i_StretchOf_1]
  refine Ret2.cond rfl (fun hc => ?_) fun _ => Ret2.pure rfl
  (simp only [ilt_T, ilt_F, ile_T, ile_F, ieq_T, ieq_F, bnot_T, bnot_F, ble_T, ble_F, nz_T, nz_F, nonneg_T, nonneg_F] at hc)
  rw [ix_nat (show i < r.length by omega), ix_nat (show i < s.2.2.2.1.length by omega), iadd_nat (by omega)]
  simp only [opt_bind_some]
  rw [c_s_l02Size (fsub_okF _ _ _), c_i_size (fsub_okF _ _ _)]
  simp only [opt_bind_some, c_i_greater]
  have g : ∀ m, Ret2 (f ((m, (((i + 1 : Nat) : Int), ())), ((s, ()), (r, ())))) (f' ((m, ((r.length : Int), (((i + 1 : Nat) : Int), ()))), ((s, ()), (r, ())))) fun o o' => o.1.1 = o'.1.1 := fun m => ih (n - 1) _ _ (by omega) ⟨i + 1, m, by omega, by omega, rfl, rfl⟩
  cases fgt .f32 (abs32 (fsub .f32 (r.getD i 0) (s.2.2.2.1.getD i 0))) m
  · exact g _
  · exact g _

theorem e_StretchOf (s : dString) (h : (z_String s : Int) ≤ 1048576) (hok : okPs [.ro true tString] (s, ())) : Same (g_s_StretchOf s) (g_i_StretchOf s) fun _ => True := by
  have hs : tString.ok s := hok.1
  clear hok
  obtain ⟨a1, a2, _, a4, a5, a6, _⟩ := hs
  unfold g_s_StretchOf g_i_StretchOf
  rw [show t_i_ValidString s = t_s_ValidString s from rfl, show t_s_ValidString s = t_s_l08Is s from rfl]
  cases h1 : t_s_l08Is s
  · exact Same.pure trivial
  have l := l08Is_lens h1
  simp only [bnot_t, cond_f]
  obtain ⟨y, e1, e2, l1, hf⟩ := e_lengths s.1 (by omega) (by omega)
  rw [e1, e2]
  simp only [opt_bind_some]
  refine Ret2.same (Ret2.bind' (se_StretchOf_loop s y a4.2 (by omega) (by omega) hf) fun o o' h => Ret2.pure ⟨by rw [h], trivial⟩)
end Go.Fw
