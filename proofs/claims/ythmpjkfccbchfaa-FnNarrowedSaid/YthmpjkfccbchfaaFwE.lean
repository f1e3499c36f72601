/- The abstract interpreter, its soundness, and plain facts: part 5. No condition. -/
import Derived.Test.YthmpjkfccbchfaaFwD
/- Floating point numbers: the order turned round; how great a result can be; what can be narrowed. No condition. -/
namespace Go.Fw
open Ieee

/-! ### how great a number can be -/
theorem word_mod' (f : Format) (s : Bool) {r : Nat} (h : r < f.signWeight) : f.word s r % f.signWeight = r := word_mod f s h

/-- Canonical words. -/
def okF (k : FloatKind) (x : Nat) : Prop := x < 2 ^ k.format.width ∧ canon k x = x
theorem okF.lt {k : FloatKind} {x : Nat} (h : okF k x) : x < 2 ^ k.format.width := h.1
theorem okF.lt32 {x : Nat} (h : okF .f32 x) : x < 2 ^ 32 := h.1
theorem okF.canon {k : FloatKind} {x : Nat} (h : okF k x) : Fw.canon k x = x := h.2
theorem okF.nan {k : FloatKind} {x : Nat} (h : okF k x) (hn : isNan k x = true) : x = qnan k := by rw [← h.canon, canon_nan hn]
theorem okF.of_num {k : FloatKind} {x : Nat} (h : x < 2 ^ k.format.width) (hn : isNan k x = false) : okF k x := ⟨h, canon_num hn⟩
theorem okF_qnan (k : FloatKind) : okF k (qnan k) := ⟨qnan_lt k, by rw [canon_nan (isNan_qnan k)]⟩

theorem map_write_lt (k : FloatKind) {o : Option Datum} {r : Nat} (h : o.map k.format.write = some r) : r < 2 ^ k.format.width := by
  cases o with
  | none => cases h
  | some d => cases h; exact k.format.write_lt d
theorem floatBits_lt {op : BinOp} {k : FloatKind} {x y r : Nat} (h : floatBits op k x y = some r) : r < 2 ^ k.format.width := by
  unfold floatBits at h
  split at h
  · exact map_write_lt k h
  · exact map_write_lt k h
  · exact map_write_lt k h
  · exact map_write_lt k h
  · cases h
theorem fop_okF (op : BinOp) (k : FloatKind) (x y : Nat) : okF k (fop op k x y) := by
  unfold fop
  cases h : floatBits op k x y with
  | none => exact okF_qnan k
  | some r => exact .of_num (floatBits_lt h) (floatBits_not_nan h)
theorem fmul_okF (k : FloatKind) (x y : Nat) : okF k (fmul k x y) := fop_okF _ _ _ _
theorem fdiv_okF (k : FloatKind) (x y : Nat) : okF k (fdiv k x y) := fop_okF _ _ _ _
theorem fop_nan {op : BinOp} {k : FloatKind} {x y : Nat} (h : isNan k x = true) : fop op k x y = qnan k := by
  unfold fop; rw [floatBits_nan_left h]; rfl
theorem feq_nan {k : FloatKind} {x y : Nat} (h : isNan k x = true) : feq k x y = false := by
  unfold feq; rw [order_nan_left h]; rfl
end Go.Fw
/- Floating point numbers: what is widened and narrowed again is the same. No condition. -/
namespace Go.Fw
open Ieee

theorem fwide_num {x m : Nat} {s : Bool} {e : Int} (hx : x < 2 ^ 32) (hn : isNan .f32 x = false) (hr : FloatKind.f32.format.read x = .number s m e) : fwide x = FloatKind.f64.format.nearest s m e := by
  have hw := fconv_wide hx
  unfold fconv floatToFloatBits at hw
  rw [hn, cond_f, if_neg (by decide), show FloatKind.f32.decode x = .number s m e from hr] at hw
  dsimp only at hw
  split at hw
  · cases hw
  · exact (Option.some.inj hw).symm

theorem fwide_inf {x : Nat} {s : Bool} (hx : x < 2 ^ 32) (hn : isNan .f32 x = false) (hr : FloatKind.f32.format.read x = .infinity s) : fwide x = FloatKind.f64.format.word s FloatKind.f64.format.infRung := by
  have hw := fconv_wide hx
  unfold fconv floatToFloatBits at hw
  rw [hn, cond_f, if_neg (by decide), show FloatKind.f32.decode x = .infinity s from hr] at hw
  exact (Option.some.inj hw).symm

theorem fwide_nan {x : Nat} (hx : x < 2 ^ 32) (hn : isNan .f32 x = true) : fwide x = qnan .f64 := by
  have hw := fconv_wide hx
  unfold fconv at hw
  rw [hn, cond_t] at hw
  exact (Option.some.inj hw).symm

/-- A number that is not 0 is read out of its widened word, its digits moved to the top. -/
theorem wide_read {x m : Nat} {s : Bool} {e : Int} (hx : x < 2 ^ 32) (hn : isNan .f32 x = false) (hr : FloatKind.f32.format.read x = .number s m e) (hm0 : m ≠ 0) (hm : m < 2 ^ 24) (he1 : -149 ≤ e) (he2 : e ≤ 104) :
    FloatKind.f64.format.read (fwide x) = .number s (m * 2 ^ (52 - m.log2)) (e + m.log2 - 52) := by
  rw [fwide_num hx hn hr]
  obtain ⟨g, h1, h2, h3, h4, h5⟩ := near64_read s hm0 hm he1 he2
  rw [h1]
  have hgs := Nat.lt_trans h3 FloatKind.f64.format.infRung_lt
  obtain ⟨p1, p2⟩ := word_parts .f64 s hgs
  rcases read_cases FloatKind.f64.format (FloatKind.f64.format.word s g) with ⟨q1, q2⟩ | ⟨q1, q3, q2⟩ | ⟨q1, q2⟩ | ⟨q1, t, q2⟩
  · rw [p2] at q1; omega
  · rw [q2, p2, p1, h4]
    have e2 : FloatKind.f64.format.leastPlace = -1074 := rfl
    rw [e2, h5]
    have : (s.toNat % 2 == 1) = s := by cases s <;> rfl
    rw [this]
    congr 1
    omega
  · rw [p2] at q1; omega
  · rw [p2] at q1; omega

theorem cut_exact (s : Bool) (m d : Nat) (hm : m ≠ 0) : Toward.even.cut s (m * 2 ^ d) d = m := by
  unfold Toward.cut
  have h1 : d ≤ (m * 2 ^ d).log2 := by
    rw [Nat.le_log2 (Nat.mul_ne_zero hm (Nat.pos_iff_ne_zero.1 (Nat.two_pow_pos d)))]
    exact Nat.le_mul_of_pos_left _ (by omega)
  have h2 : min d ((m * 2 ^ d).log2 + 2) = d := by omega
  have hpos := Nat.two_pow_pos d
  simp only [h2, Nat.one_shiftLeft, Nat.mul_mod_left, Nat.mul_div_cancel _ hpos]
  have h3 : decide (2 ^ d < 2 * 0) = false := by simp
  have h4 : (2 ^ d == 2 * 0) = false := by
    rw [beq_eq_false_iff_ne]; omega
  rw [h3, h4]
  rfl

theorem narrow_num {y : Nat} {s : Bool} {M : Nat} {E : Int} (hr : FloatKind.f64.format.read y = .number s M E) {r : Nat} (hw : FloatKind.f32.format.nearest s M E = r) (hi : r % FloatKind.f32.format.signWeight < FloatKind.f32.format.infRung) : fconv .f64 .f32 y = some r := by
  have hn : isNan .f64 y = false := by
    show (FloatKind.f64.format.read y).isNaN = false
    rw [hr]; rfl
  unfold fconv floatToFloatBits
  rw [hn, cond_f, if_neg (by decide), show FloatKind.f64.decode y = .number s M E from hr]
  have key : (FloatKind.f32.decode (FloatKind.f32.encode (.number s M E))).isInfinity = false := by
    show (FloatKind.f32.format.read (FloatKind.f32.format.nearest s M E)).isInfinity = false
    rw [hw]
    obtain ⟨m', e', hr', _⟩ := read_fin FloatKind.f32.format r hi
    rw [hr']; rfl
  simp only [key, Bool.false_eq_true, if_false]
  exact congrArg some hw

theorem word_sign (x : Nat) (hx : x < 2 ^ 32) : FloatKind.f32.format.word (x / 2 ^ 31 % 2 == 1) (x % 2 ^ 31) = x := by
  unfold Format.word
  have hsw : FloatKind.f32.format.signWeight = 2 ^ 31 := rfl
  rw [hsw]
  by_cases h : x / 2 ^ 31 % 2 = 1
  · rw [if_pos (by rw [h]; rfl)]; omega
  · rw [if_neg (by simpa using h)]; omega

/-- **What is widened and narrowed again is the same.** -/
theorem narrow_wide {x : Nat} (hx : okF .f32 x) : fconv .f64 .f32 (fwide x) = some x := by
  have lx := hx.lt32
  have hB : FloatKind.f32.format.binade = 8388608 := rfl
  have hL : FloatKind.f32.format.leastPlace = -149 := rfl
  have hI : FloatKind.f32.format.infRung = 2139095040 := rfl
  have hsw : FloatKind.f32.format.signWeight = 2 ^ 31 := rfl
  have hfb : FloatKind.f32.format.fractionBits = 23 := rfl
  cases hn : isNan .f32 x
  · have fin : ∀ m e, m < 2 ^ 24 → -149 ≤ e → e ≤ 104 → x % 2 ^ 31 < 2139095040 → FloatKind.f32.format.read x = .number (x / 2 ^ 31 % 2 == 1) m e → ((e + 149).toNat * 8388608 + m = x % 2 ^ 31 ∨ m = 0 ∧ x % 2 ^ 31 = 0) → (m ≠ 0 → max (e + m.log2 - 23) (-149) = e) → fconv .f64 .f32 (fwide x) = some x := by
      intro m e hm he1 he2 hi hr hrung hlast
      by_cases h0 : m = 0
      · subst h0
        have hz : x % 2 ^ 31 = 0 := by
          rcases hrung with h | h
          · have hd : (x % 2 ^ 31) / 8388608 = (e + 149).toNat := by omega
            rcases read_cases FloatKind.f32.format x with ⟨q1, q2⟩ | ⟨q1, q3, q2⟩ | ⟨q1, q2⟩ | ⟨q1, t, q2⟩
            · rw [hr, hsw] at q2
              simp only [Datum.number.injEq] at q2
              omega
            · rw [hr, hsw, hB] at q2
              simp only [Datum.number.injEq] at q2
              omega
            · rw [hr] at q2; cases q2
            · rw [hr] at q2; cases q2
          · exact h.2
        have hz2 : x = 0 ∨ x = 2 ^ 31 := by omega
        rcases hz2 with e | e <;> subst e <;> decide +kernel
      · have hw := wide_read lx hn hr h0 hm he1 he2
        have hl24 : m.log2 < 24 := (Nat.log2_lt h0).2 hm
        have hl := hlast h0
        have hlog : (m * 2 ^ (52 - m.log2)).log2 = 52 := by
          have h9 : 2 ^ m.log2 ≤ m := Nat.log2_self_le h0
          have h7 : m < 2 ^ (m.log2 + 1) := Nat.lt_log2_self
          have hpos := Nat.two_pow_pos (52 - m.log2)
          have h10 : 2 ^ m.log2 * 2 ^ (52 - m.log2) ≤ m * 2 ^ (52 - m.log2) := Nat.mul_le_mul_right _ h9
          have h8 : m * 2 ^ (52 - m.log2) < 2 ^ (m.log2 + 1) * 2 ^ (52 - m.log2) := Nat.mul_lt_mul_of_pos_right h7 hpos
          rw [← Nat.pow_add, show m.log2 + (52 - m.log2) = 52 by omega] at h10
          rw [← Nat.pow_add, show m.log2 + 1 + (52 - m.log2) = 53 by omega] at h8
          have hne : m * 2 ^ (52 - m.log2) ≠ 0 := by have := Nat.two_pow_pos 52; omega
          have a1 := (Nat.le_log2 hne).2 h10
          have a2 := (Nat.log2_lt hne).2 h8
          omega
        have hne : m * 2 ^ (52 - m.log2) ≠ 0 := by intro e; rw [e] at hlog; cases hlog
        refine narrow_num hw ?_ (by rw [hsw, hI]; exact hi)
        unfold Format.nearest
        rw [if_neg hne, hlog, hfb, hL]
        have e1 : max (e + (m.log2 : Int) - 52 + ((52 : Nat) : Int) - ((23 : Nat) : Int)) (-149) = e := by omega
        dsimp only
        rw [e1, show (e + (m.log2 : Int) - 52 - e).toNat = 0 by omega, show (e - (e + (m.log2 : Int) - 52)).toNat = 52 - m.log2 by omega, Nat.shiftLeft_zero, cut_exact _ _ _ h0, hB, hI]
        have e2 : (e - -149).toNat * 8388608 + m = x % 2 ^ 31 := by
          rcases hrung with h | h
          · rw [← h, show (e - -149) = e + 149 by omega]
          · exact absurd h.1 h0
        rw [e2, show min (x % 2 ^ 31) 2139095040 = x % 2 ^ 31 by omega]
        exact word_sign x lx
    rcases read_cases FloatKind.f32.format x with ⟨h1, h2⟩ | ⟨h1, h3, h2⟩ | ⟨h1, h2⟩ | ⟨h1, t, h2⟩
    · rw [hsw, hB] at h1
      rw [hsw, hL] at h2
      refine fin _ _ (by omega) (by omega) (by omega) (by omega) h2 (.inl (by omega)) fun h0 => ?_
      have : (x % 2 ^ 31).log2 < 23 := (Nat.log2_lt h0).2 (by omega)
      omega
    · rw [hsw, hB] at h1
      rw [hsw, hI] at h3
      rw [hsw, hL, hB] at h2
      have hm := Nat.mod_lt (x % 2 ^ 31) (show 0 < 8388608 by omega)
      have hd : x % 2 ^ 31 / 8388608 < 255 := Nat.div_lt_of_lt_mul (by omega)
      refine fin _ _ (by omega) (by omega) (by omega) h3 h2 (.inl (by omega)) fun h0 => ?_
      have : (8388608 + x % 2 ^ 31 % 8388608).log2 = 23 := by
        have a1 := (Nat.le_log2 h0 (k := 23)).2 (by omega)
        have a2 := (Nat.log2_lt h0 (k := 24)).2 (by omega)
        omega
      rw [this]
      omega
    · rw [hsw, hI] at h1
      rw [hsw] at h2
      rw [fwide_inf lx hn h2]
      have hinf : x = 2139095040 ∨ x = 4286578688 := by omega
      rcases hinf with e | e <;> subst e <;> decide +kernel
    · exfalso
      have : isNan .f32 x = true := by
        show (FloatKind.f32.format.read x).isNaN = true
        rw [h2]; rfl
      rw [hn] at this; cases this
  · rw [fwide_nan lx hn, hx.nan hn]
    decide +kernel

end Go.Fw
/- Floating point numbers as whole numbers of the least place: rounding keeps the order. No condition. -/
namespace Go.Fw
open Ieee

theorem scale {a b i j i' j' : Nat} (h : a * 2 ^ i ≤ b * 2 ^ j) (hij : i + j' = i' + j) : a * 2 ^ i' ≤ b * 2 ^ j' := by
  rcases Nat.le_total i' i with hl | hl
  · obtain ⟨c, rfl⟩ := Nat.exists_eq_add_of_le hl
    obtain rfl : j = j' + c := by omega
    rw [Nat.pow_add, Nat.pow_add, ← Nat.mul_assoc, ← Nat.mul_assoc] at h
    exact Nat.le_of_mul_le_mul_right h (Nat.two_pow_pos c)
  · obtain ⟨c, rfl⟩ := Nat.exists_eq_add_of_le hl
    obtain rfl : j' = j + c := by omega
    rw [Nat.pow_add, Nat.pow_add, ← Nat.mul_assoc, ← Nat.mul_assoc]
    exact Nat.mul_le_mul_right _ h

theorem cut_pow (n d : Nat) : (d ≤ n.log2 + 2 ∧ 1 <<< min d (n.log2 + 2) = 2 ^ d) ∨ (n.log2 + 2 < d ∧ 1 <<< min d (n.log2 + 2) = 2 ^ (n.log2 + 2) ∧ 2 * n < 2 ^ (n.log2 + 2) ∧ n < 2 ^ d) := by
  rw [Nat.one_shiftLeft]
  rcases Nat.lt_or_ge (n.log2 + 2) d with hd | hd
  · have h1 : n < 2 ^ (n.log2 + 1) := Nat.lt_log2_self
    have h2 : 2 ^ (n.log2 + 2) = 2 ^ (n.log2 + 1) * 2 := Nat.pow_succ ..
    have h3 : 2 ^ (n.log2 + 2) ≤ 2 ^ d := Nat.pow_le_pow_right (by omega) (by omega)
    exact .inr ⟨hd, by rw [Nat.min_eq_right (by omega)], by omega, by omega⟩
  · exact .inl ⟨hd, by rw [Nat.min_eq_left hd]⟩

theorem cut_up (s : Bool) {n d N : Nat} (h : n ≤ N * 2 ^ d) : Toward.even.cut s n d ≤ N := by
  unfold Toward.cut
  dsimp only
  rcases cut_pow n d with ⟨_, e⟩ | ⟨_, e, h1, _⟩
  · rw [e]
    have hp := Nat.two_pow_pos d
    have h2 := Nat.div_add_mod n (2 ^ d)
    have h3 : ∀ b : Bool, b.toNat ≤ 1 := fun b => by cases b <;> simp
    by_cases h0 : n % 2 ^ d = 0
    · rw [h0]
      have : n / 2 ^ d ≤ N := Nat.div_le_of_le_mul (by rw [Nat.mul_comm]; exact h)
      have a1 : decide (2 ^ d < 2 * 0) = false := by simp
      have a2 : (2 ^ d == 2 * 0) = false := by rw [beq_eq_false_iff_ne]; omega
      rw [a1, a2]
      simpa using this
    · have : n / 2 ^ d < N := by
        refine Nat.div_lt_of_lt_mul ?_
        rw [Nat.mul_comm]
        rcases Nat.lt_or_ge n (N * 2 ^ d) with h4 | h4
        · exact h4
        · exfalso
          have : n = N * 2 ^ d := by omega
          rw [this, Nat.mul_mod_left] at h0
          exact h0 rfl
      have := h3 (decide (2 ^ d < 2 * (n % 2 ^ d)) || (2 ^ d == 2 * (n % 2 ^ d) && n / 2 ^ d % 2 == 1))
      omega
  · rw [e, Nat.div_eq_of_lt (by omega), Nat.mod_eq_of_lt (by omega)]
    have a1 : decide (2 ^ (n.log2 + 2) < 2 * n) = false := by simp; omega
    have a2 : (2 ^ (n.log2 + 2) == 2 * n) = false := by rw [beq_eq_false_iff_ne]; omega
    rw [a1, a2]
    simp

theorem cut_low (s : Bool) {n d N : Nat} (h : N * 2 ^ d ≤ n) : N ≤ Toward.even.cut s n d := by
  unfold Toward.cut
  dsimp only
  rcases cut_pow n d with ⟨_, e⟩ | ⟨_, e, h1, h2⟩
  · rw [e]
    have : N ≤ n / 2 ^ d := (Nat.le_div_iff_mul_le (Nat.two_pow_pos d)).2 h
    omega
  · have : N = 0 := by
      rcases Nat.eq_zero_or_pos N with h0 | h0
      · exact h0
      · have : 1 * 2 ^ d ≤ N * 2 ^ d := Nat.mul_le_mul_right _ h0
        omega
    rw [this]; exact Nat.zero_le _

/-- Where a number is written. -/
theorem near_parts (f : Format) (s : Bool) {m : Nat} (e : Int) (hm : m ≠ 0) :
    ∃ p kept : Nat, f.nearest s m e = f.word s (min (p * f.binade + kept) f.infRung) ∧ (e + m.log2 ≤ f.leastPlace + p + f.fractionBits) ∧ (1 ≤ p → f.leastPlace + p = e + m.log2 - f.fractionBits) ∧
      kept = Toward.even.cut s (m <<< (e - (f.leastPlace + p)).toNat) (f.leastPlace + p - e).toNat := by
  unfold Format.nearest
  rw [if_neg hm]
  refine ⟨(max (e + (m.log2 : Int) - f.fractionBits) f.leastPlace - f.leastPlace).toNat, _, rfl, ?_, ?_, ?_⟩
  · omega
  · omega
  · have : f.leastPlace + ((max (e + (m.log2 : Int) - f.fractionBits) f.leastPlace - f.leastPlace).toNat : Int) = max (e + (m.log2 : Int) - f.fractionBits) f.leastPlace := by omega
    rw [this]

theorem kept_le (f : Format) (s : Bool) {m : Nat} {e : Int} {p : Nat} (h : e + m.log2 ≤ f.leastPlace + p + f.fractionBits) :
    Toward.even.cut s (m <<< (e - (f.leastPlace + p)).toNat) (f.leastPlace + p - e).toNat ≤ 2 * f.binade := by
  have h7 : m < 2 ^ (m.log2 + 1) := Nat.lt_log2_self
  refine cut_up s ?_
  rw [Nat.shiftLeft_eq]
  refine Nat.le_trans (Nat.le_of_lt (Nat.mul_lt_mul_of_pos_right h7 (Nat.two_pow_pos _))) ?_
  rw [show 2 * f.binade = 2 ^ (f.fractionBits + 1) by unfold Format.binade; rw [Nat.pow_succ]; omega, ← Nat.pow_add, ← Nat.pow_add]
  exact Nat.pow_le_pow_right (by omega) (by omega)

theorem kept_ge (f : Format) (s : Bool) {m : Nat} {e : Int} {p : Nat} (hm : m ≠ 0) (h : f.leastPlace + p = e + m.log2 - f.fractionBits) :
    f.binade ≤ Toward.even.cut s (m <<< (e - (f.leastPlace + p)).toNat) (f.leastPlace + p - e).toNat := by
  refine cut_low s ?_
  rw [Nat.shiftLeft_eq]
  refine Nat.le_trans ?_ (Nat.mul_le_mul_right _ (Nat.log2_self_le hm))
  unfold Format.binade
  rw [← Nat.pow_add, ← Nat.pow_add]
  exact Nat.pow_le_pow_right (by omega) (by omega)

theorem mag_parts {B r : Nat} (hB : 0 < B) (h : B ≤ r) : ∃ q t, t < B ∧ r = (q + 1) * B + t ∧ mag B r = (B + t) * 2 ^ q := by
  have hd : 1 ≤ r / B := (Nat.le_div_iff_mul_le hB).2 (by omega)
  refine ⟨r / B - 1, r % B, Nat.mod_lt r hB, ?_, by unfold mag; rw [if_neg (by omega)]⟩
  rw [show r / B - 1 + 1 = r / B by omega, Nat.mul_comm]
  exact (Nat.div_add_mod r B).symm

theorem near_le (f : Format) (s : Bool) {m : Nat} {e : Int} {r : Nat} (h : m * 2 ^ (e - f.leastPlace).toNat ≤ mag f.binade r * 2 ^ (f.leastPlace - e).toNat) : ∃ g, f.nearest s m e = f.word s g ∧ g ≤ r ∧ g ≤ f.infRung := by
  by_cases hm : m = 0
  · subst hm
    exact ⟨0, by unfold Format.nearest; rw [if_pos rfl], by omega, by omega⟩
  obtain ⟨p, kept, hn, h1, h2, hk⟩ := near_parts f s e hm
  refine ⟨_, hn, Nat.le_trans (Nat.min_le_left ..) ?_, Nat.min_le_right ..⟩
  have hB : 0 < f.binade := Nat.two_pow_pos _
  have hBe : f.binade = 2 ^ f.fractionBits := rfl
  have hlog : 2 ^ m.log2 ≤ m := Nat.log2_self_le hm
  -- the number reaches 2 to the power of its logarithm
  have low : ∀ c : Nat, mag f.binade r < 2 ^ c → e + m.log2 < f.leastPlace + c := fun c hc => by
    have h3 : 2 ^ m.log2 * 2 ^ (e - f.leastPlace).toNat < 2 ^ c * 2 ^ (f.leastPlace - e).toNat :=
      Nat.lt_of_le_of_lt (Nat.le_trans (Nat.mul_le_mul_right _ hlog) h) (Nat.mul_lt_mul_of_pos_right hc (Nat.two_pow_pos _))
    rw [← Nat.pow_add, ← Nat.pow_add] at h3
    have := (Nat.pow_lt_pow_iff_right (by omega)).1 h3
    omega
  by_cases hr : r < f.binade
  · have hmag : mag f.binade r = r := by unfold mag; rw [if_pos hr]
    rw [hmag] at h low
    have := low f.fractionBits (by rw [← hBe]; exact hr)
    have hp : p = 0 := by
      rcases Nat.eq_zero_or_pos p with h0 | h0
      · exact h0
      · have := h2 h0; omega
    subst hp
    rw [hk, Nat.zero_mul, Nat.zero_add]
    refine cut_up s ?_
    rw [Nat.shiftLeft_eq]
    exact scale h (by omega)
  · obtain ⟨q, t, ht, rfl, hmag⟩ := mag_parts hB (Nat.le_of_not_lt hr)
    rw [hmag] at h low
    have h3 := low (f.fractionBits + q + 1) (by
      rw [show f.fractionBits + q + 1 = f.fractionBits + 1 + q by omega, Nat.pow_add, Nat.pow_succ, ← hBe]
      exact Nat.mul_lt_mul_of_pos_right (by omega) (Nat.two_pow_pos _))
    have hpq : p ≤ q := by
      rcases Nat.eq_zero_or_pos p with h0 | h0
      · omega
      · have := h2 h0; omega
    rcases Nat.lt_or_ge p q with hlt | hge
    · have := kept_le f s h1
      rw [← hk] at this
      have h4 : p * f.binade + f.binade ≤ q * f.binade := by rw [← Nat.succ_mul]; exact Nat.mul_le_mul_right _ hlt
      rw [Nat.succ_mul]
      omega
    · have hp : p = q := by omega
      subst hp
      have : kept ≤ f.binade + t := by
        rw [hk]
        refine cut_up s ?_
        rw [Nat.shiftLeft_eq]
        rw [Nat.mul_assoc, ← Nat.pow_add] at h
        exact scale h (by omega)
      rw [Nat.succ_mul]
      omega

theorem near_ge (f : Format) (s : Bool) {m : Nat} {e : Int} {r : Nat} (hi : r ≤ f.infRung) (h : mag f.binade r * 2 ^ (f.leastPlace - e).toNat ≤ m * 2 ^ (e - f.leastPlace).toNat) : ∃ g, f.nearest s m e = f.word s g ∧ r ≤ g := by
  by_cases hm : m = 0
  · subst hm
    refine ⟨0, by unfold Format.nearest; rw [if_pos rfl], ?_⟩
    rw [Nat.zero_mul] at h
    have hp := Nat.two_pow_pos (f.leastPlace - e).toNat
    have h0 : mag f.binade r = 0 := by
      rcases Nat.eq_zero_or_pos (mag f.binade r) with h0 | h0
      · exact h0
      · have := Nat.mul_le_mul h0 hp; omega
    have hB : 0 < f.binade := Nat.two_pow_pos _
    by_cases hr : r < f.binade
    · unfold mag at h0; rw [if_pos hr] at h0; omega
    · have := (mag_lt hB (Nat.le_of_not_lt hr)).1
      have := Nat.mul_le_mul hB (Nat.two_pow_pos (r / f.binade - 1))
      omega
  obtain ⟨p, kept, hn, h1, h2, hk⟩ := near_parts f s e hm
  refine ⟨_, hn, Nat.le_min.2 ⟨?_, hi⟩⟩
  have hB : 0 < f.binade := Nat.two_pow_pos _
  have hBe : f.binade = 2 ^ f.fractionBits := rfl
  have hlog : m < 2 ^ (m.log2 + 1) := Nat.lt_log2_self
  have big : 1 ≤ p → f.binade ≤ kept := fun hp => by rw [hk]; exact kept_ge f s hm (h2 hp)
  by_cases hr : r < f.binade
  · rcases Nat.eq_zero_or_pos p with h0 | h0
    · subst h0
      rw [hk, Nat.zero_mul, Nat.zero_add]
      refine cut_low s ?_
      rw [Nat.shiftLeft_eq]
      have hmag : mag f.binade r = r := by unfold mag; rw [if_pos hr]
      rw [hmag] at h
      exact scale h (by omega)
    · have := big h0; omega
  · obtain ⟨q, t, ht, rfl, hmag⟩ := mag_parts hB (Nat.le_of_not_lt hr)
    rw [hmag] at h
    have h3 : f.leastPlace + f.fractionBits + q < e + m.log2 + 1 := by
      have h3 : 2 ^ (f.fractionBits + q) * 2 ^ (f.leastPlace - e).toNat < 2 ^ (m.log2 + 1) * 2 ^ (e - f.leastPlace).toNat := by
        refine Nat.lt_of_le_of_lt (Nat.le_trans (Nat.mul_le_mul_right _ ?_) h) (Nat.mul_lt_mul_of_pos_right hlog (Nat.two_pow_pos _))
        rw [Nat.pow_add, ← hBe]
        exact Nat.mul_le_mul_right _ (by omega)
      rw [← Nat.pow_add, ← Nat.pow_add] at h3
      have := (Nat.pow_lt_pow_iff_right (by omega)).1 h3
      omega
    have hpq : q ≤ p := by omega
    rcases Nat.lt_or_ge q p with hlt | hge
    · have := big (by omega)
      have h4 : q * f.binade + f.binade ≤ p * f.binade := by rw [← Nat.succ_mul]; exact Nat.mul_le_mul_right _ hlt
      rw [Nat.succ_mul]
      omega
    · have hp : p = q := by omega
      subst hp
      have : f.binade + t ≤ kept := by
        rw [hk]
        refine cut_low s ?_
        rw [Nat.shiftLeft_eq]
        rw [Nat.mul_assoc, ← Nat.pow_add] at h
        exact scale h (by omega)
      rw [Nat.succ_mul]
      omega

theorem near_eq (f : Format) (s : Bool) {m : Nat} {e : Int} {r : Nat} (hi : r ≤ f.infRung) (h : m * 2 ^ (e - f.leastPlace).toNat = mag f.binade r * 2 ^ (f.leastPlace - e).toNat) : f.nearest s m e = f.word s r := by
  obtain ⟨g, h1, h2, _⟩ := near_le f s (Nat.le_of_eq h)
  obtain ⟨g', h3, h4⟩ := near_ge f s hi (Nat.le_of_eq h.symm)
  have : g = g' := by
    rw [h1] at h3
    unfold Format.word at h3
    cases s <;> simp at h3 <;> omega
  subst this
  rw [h1, show g = r by omega]

theorem mag_mono {B r s : Nat} (hB : 0 < B) (h : r ≤ s) : mag B r ≤ mag B s := by
  by_cases hr : r < B
  · by_cases hs : s < B
    · unfold mag; rw [if_pos hr, if_pos hs]; exact h
    · obtain ⟨q, t, _, _, e⟩ := mag_parts hB (Nat.le_of_not_lt hs)
      rw [e]
      unfold mag
      rw [if_pos hr]
      have : (B + t) * 1 ≤ (B + t) * 2 ^ q := Nat.mul_le_mul_left _ (Nat.two_pow_pos q)
      omega
  · obtain ⟨q, t, ht, rfl, e⟩ := mag_parts hB (Nat.le_of_not_lt hr)
    obtain ⟨q', t', ht', rfl, e'⟩ := mag_parts hB (Nat.le_trans (Nat.le_of_not_lt hr) h)
    rw [e, e']
    rcases Nat.lt_trichotomy q q' with h1 | h1 | h1
    · have h2 : 2 ^ q * 2 ≤ 2 ^ q' := by rw [← Nat.pow_succ]; exact Nat.pow_le_pow_right (by omega) h1
      calc (B + t) * 2 ^ q ≤ (B * 2) * 2 ^ q := Nat.mul_le_mul_right _ (by omega)
        _ = B * (2 ^ q * 2) := by rw [Nat.mul_assoc, Nat.mul_comm 2]
        _ ≤ (B + t') * 2 ^ q' := Nat.mul_le_mul (by omega) h2
    · subst h1
      exact Nat.mul_le_mul_right _ (by omega)
    · exfalso
      have : (q' + 1 + 1) * B ≤ (q + 1) * B := Nat.mul_le_mul_right _ (by omega)
      rw [Nat.succ_mul (q' + 1)] at this
      omega

/-! ### words as whole numbers of the least place -/
def fin (k : FloatKind) (x : Nat) : Prop := x % k.format.signWeight < k.format.infRung
def V (k : FloatKind) (x : Nat) : Nat := mag k.format.binade (x % k.format.signWeight)
def sg (k : FloatKind) (x : Nat) : Bool := x / k.format.signWeight % 2 == 1
def Z (k : FloatKind) (x : Nat) : Int := if sg k x then -(V k x : Int) else V k x

theorem fin_read {k : FloatKind} {x : Nat} (h : fin k x) : ∃ m a : Nat, k.format.read x = .number (sg k x) m (k.format.leastPlace + a) ∧ m * 2 ^ a = V k x := read_fin k.format x h

theorem word_fin {k : FloatKind} {s : Bool} {g : Nat} (h : g < k.format.infRung) : fin k (k.format.word s g) ∧ V k (k.format.word s g) = mag k.format.binade g ∧ sg k (k.format.word s g) = s := by
  obtain ⟨p1, p2⟩ := word_parts k s (Nat.lt_trans h k.format.infRung_lt)
  refine ⟨by unfold fin; rw [p2]; exact h, by unfold V; rw [p2], ?_⟩
  unfold sg
  rw [p1]
  cases s <;> rfl

theorem fin_nan {k : FloatKind} {x : Nat} (h : fin k x) : isNan k x = false := by
  obtain ⟨m, a, hr, _⟩ := fin_read h
  show (k.format.read x).isNaN = false
  rw [hr]; rfl

/-- A number that is not greater than 2 to the power of c places is written as such a one. -/
theorem near_bnd (s : Bool) {m c : Nat} {e : Int} (h1 : 52 ≤ c) (h2 : c ≤ 2097) (h : m * 2 ^ (e + 1074).toNat ≤ 2 ^ c * 2 ^ (-1074 - e).toNat) :
    fin .f64 (FloatKind.f64.format.nearest s m e) ∧ V .f64 (FloatKind.f64.format.nearest s m e) ≤ 2 ^ c := by
  have hB : FloatKind.f64.format.binade = 2 ^ 52 := rfl
  have hI : FloatKind.f64.format.infRung = 2047 * FloatKind.f64.format.binade := rfl
  have hL : FloatKind.f64.format.leastPlace = -1074 := rfl
  have hBp : 0 < FloatKind.f64.format.binade := Nat.two_pow_pos _
  have hm : mag FloatKind.f64.format.binade ((c - 51) * FloatKind.f64.format.binade) = 2 ^ c := by
    unfold mag
    have : FloatKind.f64.format.binade ≤ (c - 51) * FloatKind.f64.format.binade := Nat.le_mul_of_pos_left _ (by omega)
    rw [if_neg (by omega), Nat.mul_mod_left, Nat.mul_div_cancel _ hBp, hB, Nat.add_zero, ← Nat.pow_add]
    congr 1; omega
  obtain ⟨g, h3, h4, _⟩ := near_le FloatKind.f64.format s (m := m) (e := e) (r := (c - 51) * FloatKind.f64.format.binade) (by
    rw [hL, hm, show e - -1074 = e + 1074 by omega]; exact h)
  have hlt : g < FloatKind.f64.format.infRung := by
    have : (c - 51) * FloatKind.f64.format.binade ≤ 2046 * FloatKind.f64.format.binade := Nat.mul_le_mul_right _ (by omega)
    omega
  rw [h3]
  obtain ⟨w1, w2, _⟩ := word_fin (k := .f64) (s := s) hlt
  exact ⟨w1, by rw [w2, ← hm]; exact mag_mono hBp h4⟩

theorem fmul_bnd {x y p q : Nat} (hx : fin .f64 x) (hy : fin .f64 y) (hp : V .f64 x ≤ 2 ^ p) (hq : V .f64 y ≤ 2 ^ q) (h1 : 1126 ≤ p + q) (h2 : p + q ≤ 3171) : fin .f64 (fmul .f64 x y) ∧ V .f64 (fmul .f64 x y) ≤ 2 ^ (p + q - 1074) := by
  obtain ⟨m, a, hr, e⟩ := fin_read hx
  obtain ⟨n, b, hr', e'⟩ := fin_read hy
  have : fmul .f64 x y = FloatKind.f64.format.nearest (sg .f64 x ^^ sg .f64 y) (m * n) (FloatKind.f64.format.leastPlace + a + (FloatKind.f64.format.leastPlace + b)) := by
    unfold fmul fop floatBits Format.mul
    rw [hr, hr']; rfl
  rw [this]
  have hL : FloatKind.f64.format.leastPlace = -1074 := rfl
  rw [hL]
  refine near_bnd _ (by omega) (by omega) ?_
  have h3 : ∀ K, K ≤ p + q → m * n * 2 ^ (a + b) ≤ 2 ^ (p + q - K) * 2 ^ K := fun K hK => by
    rw [Nat.pow_sub_mul_pow 2 hK, Nat.pow_add 2 p q, Nat.pow_add 2 a b, Nat.mul_mul_mul_comm, e, e']
    exact Nat.mul_le_mul hp hq
  exact scale (h3 1074 (by omega)) (by omega)

theorem cmp_scale (a b : Int) (c : Nat) (hc : 0 < c) : compare (a * c) (b * c) = compare a b := by
  have hc' : (0 : Int) < c := by omega
  rcases Int.lt_trichotomy a b with h | h | h
  · rw [Int.compare_eq_lt.2 h, Int.compare_eq_lt.2 (Int.mul_lt_mul_of_pos_right h hc')]
  · subst h; rw [cmp_self, cmp_self]
  · rw [Int.compare_eq_gt.2 h, Int.compare_eq_gt.2 (Int.mul_lt_mul_of_pos_right h hc')]

/-- A number's signed value at a base not above its place. -/
theorem signed_base (s : Bool) (m : Nat) (L : Int) (a c : Nat) (h : c ≤ a) : signed s m (L + a - (L + c)).toNat * ((2 ^ c : Nat) : Int) = if s then -((m * 2 ^ a : Nat) : Int) else ((m * 2 ^ a : Nat) : Int) := by
  rw [signed_eq, show (L + (a : Int) - (L + c)).toNat = a - c by omega]
  have : m * 2 ^ a = m * 2 ^ (a - c) * 2 ^ c := by rw [Nat.mul_assoc, ← Nat.pow_add, show a - c + c = a by omega]
  rw [this]
  cases s
  · simp
  · simp only [if_true, Int.natCast_mul, Int.neg_mul, Int.one_mul]

theorem order_fin {k : FloatKind} {x y : Nat} (hx : fin k x) (hy : fin k y) : k.format.order x y = some (compare (Z k x) (Z k y)) := by
  obtain ⟨m, a, hr, e⟩ := fin_read hx
  obtain ⟨n, b, hr', e'⟩ := fin_read hy
  unfold Format.order
  rw [hr, hr']
  show some (compare (signed (sg k x) m _) (signed (sg k y) n _)) = _
  have hb : min (k.format.leastPlace + (a : Int)) (k.format.leastPlace + b) = k.format.leastPlace + (min a b : Nat) := by omega
  rw [hb, ← cmp_scale _ _ (2 ^ min a b) (Nat.two_pow_pos _), signed_base _ _ _ _ _ (Nat.min_le_left a b), signed_base _ _ _ _ _ (Nat.min_le_right a b), e, e']
  rfl

/-- What a sum is before it is rounded. -/
theorem sum_fin {k : FloatKind} {x y : Nat} (t : Bool) (hx : fin k x) (hy : fin k y) (z : Int) (hz : z = Z k x + (if t then -Z k y else Z k y)) :
    ∃ (M : Nat) (c : Nat), (k.format.read x).sum (if t then (k.format.read y).opposite else k.format.read y) = some (.number (if z = 0 then sg k x && (t ^^ sg k y) else decide (z < 0)) M (k.format.leastPlace + c)) ∧ M * 2 ^ c = z.natAbs := by
  obtain ⟨m, a, hr, e⟩ := fin_read hx
  obtain ⟨n, b, hr', e'⟩ := fin_read hy
  have ho : (if t then (k.format.read y).opposite else k.format.read y) = .number (t ^^ sg k y) n (k.format.leastPlace + b) := by
    rw [hr']; cases t <;> simp [Datum.opposite]
  rw [ho, hr]
  have hb : min (k.format.leastPlace + (a : Int)) (k.format.leastPlace + b) = k.format.leastPlace + (min a b : Nat) := by omega
  have hs1 := signed_base (sg k x) m k.format.leastPlace a (min a b) (Nat.min_le_left a b)
  have hs2 := signed_base (t ^^ sg k y) n k.format.leastPlace b (min a b) (Nat.min_le_right a b)
  rw [e] at hs1
  rw [e'] at hs2
  have hz1 : (signed (sg k x) m (k.format.leastPlace + a - (k.format.leastPlace + (min a b : Nat))).toNat + signed (t ^^ sg k y) n (k.format.leastPlace + b - (k.format.leastPlace + (min a b : Nat))).toNat) * ((2 ^ min a b : Nat) : Int) = z := by
    rw [Int.add_mul, hs1, hs2, hz]
    unfold Z
    cases t <;> cases sg k y <;> simp
  refine ⟨(signed (sg k x) m (k.format.leastPlace + a - (k.format.leastPlace + (min a b : Nat))).toNat + signed (t ^^ sg k y) n (k.format.leastPlace + b - (k.format.leastPlace + (min a b : Nat))).toNat).natAbs, min a b, ?_, ?_⟩
  · simp only [Datum.sum, hb]
    generalize signed (sg k x) m _ + signed (t ^^ sg k y) n _ = w at *
    have hpos : (0 : Int) < ((2 ^ min a b : Nat) : Int) := by have := Nat.two_pow_pos (min a b); omega
    have h0 : w = 0 ↔ z = 0 := by
      rw [← hz1]
      constructor
      · intro h; rw [h, Int.zero_mul]
      · intro h; rcases Int.mul_eq_zero.1 h with h | h
        · exact h
        · omega
    have hlt : w < 0 ↔ z < 0 := by
      rw [← hz1]
      constructor
      · intro h; exact Int.mul_neg_of_neg_of_pos h hpos
      · intro h
        rcases Int.lt_or_le w 0 with h1 | h1
        · exact h1
        · have := Int.mul_nonneg h1 (Int.le_of_lt hpos); omega
    simp only [h0, hlt]
  · generalize signed (sg k x) m _ + signed (t ^^ sg k y) n _ = w at *
    rw [← hz1, Int.natAbs_mul, Int.natAbs_natCast]

theorem fadd_fin {k : FloatKind} {x y : Nat} (hx : fin k x) (hy : fin k y) : ∃ (M : Nat) (c : Nat), fadd k x y = k.format.nearest (if Z k x + Z k y = 0 then sg k x && sg k y else decide (Z k x + Z k y < 0)) M (k.format.leastPlace + c) ∧ M * 2 ^ c = (Z k x + Z k y).natAbs := by
  obtain ⟨M, c, h1, h2⟩ := sum_fin false hx hy (Z k x + Z k y) (by simp)
  refine ⟨M, c, ?_, h2⟩
  simp only [Bool.false_eq_true, if_false, Bool.false_xor] at h1
  unfold fadd fop floatBits Format.add
  simp only [h1]; rfl

theorem fsub_fin {k : FloatKind} {x y : Nat} (hx : fin k x) (hy : fin k y) : ∃ (M : Nat) (c : Nat), fsub k x y = k.format.nearest (if Z k x - Z k y = 0 then sg k x && !sg k y else decide (Z k x - Z k y < 0)) M (k.format.leastPlace + c) ∧ M * 2 ^ c = (Z k x - Z k y).natAbs := by
  obtain ⟨M, c, h1, h2⟩ := sum_fin true hx hy (Z k x - Z k y) (by simp [Int.sub_eq_add_neg])
  refine ⟨M, c, ?_, h2⟩
  simp only [if_true, Bool.true_xor] at h1
  unfold fsub fop floatBits Format.sub
  simp only [h1]; rfl

theorem Z_abs {k : FloatKind} {x : Nat} : (Z k x).natAbs = V k x := by unfold Z; split <;> simp

theorem near_sum {M c p : Nat} {s : Bool} {z : Int} (h : M * 2 ^ c = z.natAbs) (h1 : 52 ≤ p) (h2 : p ≤ 2097) (hz : z.natAbs ≤ 2 ^ p) :
    fin .f64 (FloatKind.f64.format.nearest s M (FloatKind.f64.format.leastPlace + c)) ∧ V .f64 (FloatKind.f64.format.nearest s M (FloatKind.f64.format.leastPlace + c)) ≤ 2 ^ p := by
  have hL : FloatKind.f64.format.leastPlace = -1074 := rfl
  rw [hL]
  refine near_bnd s h1 h2 ?_
  refine scale (i := c) (j := 0) ?_ (by omega)
  rw [h]; simpa using hz

theorem fadd_bnd {x y p : Nat} (hx : fin .f64 x) (hy : fin .f64 y) (hp : V .f64 x ≤ 2 ^ p) (hq : V .f64 y ≤ 2 ^ p) (h1 : 52 ≤ p) (h2 : p ≤ 2096) : fin .f64 (fadd .f64 x y) ∧ V .f64 (fadd .f64 x y) ≤ 2 ^ (p + 1) := by
  obtain ⟨M, c, e, h⟩ := fadd_fin hx hy
  rw [e]
  refine near_sum h (by omega) (by omega) ?_
  have := Int.natAbs_add_le (Z .f64 x) (Z .f64 y)
  rw [Z_abs, Z_abs] at this
  rw [Nat.pow_succ]; omega

theorem fsub_bnd {x y p : Nat} (hx : fin .f64 x) (hy : fin .f64 y) (hp : V .f64 x ≤ 2 ^ p) (hq : V .f64 y ≤ 2 ^ p) (h1 : 52 ≤ p) (h2 : p ≤ 2096) : fin .f64 (fsub .f64 x y) ∧ V .f64 (fsub .f64 x y) ≤ 2 ^ (p + 1) := by
  obtain ⟨M, c, e, h⟩ := fsub_fin hx hy
  rw [e]
  refine near_sum h (by omega) (by omega) ?_
  have := Int.natAbs_sub_le (Z .f64 x) (Z .f64 y)
  rw [Z_abs, Z_abs] at this
  rw [Nat.pow_succ]; omega

/-- Divided by a number that is not less than 2 to the power of q places. -/
theorem fdiv_bnd {x y p q : Nat} (hx : fin .f64 x) (hy : fin .f64 y) (hp : V .f64 x ≤ 2 ^ p) (hq : 2 ^ q ≤ V .f64 y) (h1 : q + 52 ≤ p + 1074) (h2 : p + 1074 ≤ 2097 + q) : fin .f64 (fdiv .f64 x y) ∧ V .f64 (fdiv .f64 x y) ≤ 2 ^ (p + 1074 - q) := by
  obtain ⟨m, a, hr, e⟩ := fin_read hx
  obtain ⟨n, b, hr', e'⟩ := fin_read hy
  have hn : n ≠ 0 := by
    rintro rfl
    have := Nat.two_pow_pos q
    omega
  have hd : fdiv .f64 x y = FloatKind.f64.format.nearest (sg .f64 x ^^ sg .f64 y) (2 * (m <<< (54 + n.log2 - m.log2) / n) + (m <<< (54 + n.log2 - m.log2) % n != 0).toNat) (FloatKind.f64.format.leastPlace + a - (FloatKind.f64.format.leastPlace + b) - (54 + n.log2 - m.log2 : Nat) - 1) := by
    unfold fdiv fop floatBits Format.div
    rw [hr, hr']
    simp only [Datum.quotient, hn, if_false]
    rfl
  rw [hd]
  have hL : FloatKind.f64.format.leastPlace = -1074 := rfl
  rw [hL, Nat.shiftLeft_eq]
  have hmore : m ≠ 0 → n ≤ m * 2 ^ (54 + n.log2 - m.log2) := fun hm => by
    have h3 : 2 ^ m.log2 * 2 ^ (54 + n.log2 - m.log2) ≤ m * 2 ^ (54 + n.log2 - m.log2) := Nat.mul_le_mul_right _ (Nat.log2_self_le hm)
    rw [← Nat.pow_add] at h3
    have h4 : n < 2 ^ (n.log2 + 1) := Nat.lt_log2_self
    have h5 : 2 ^ (n.log2 + 1) ≤ 2 ^ (m.log2 + (54 + n.log2 - m.log2)) := Nat.pow_le_pow_right (by omega) (by omega)
    omega
  generalize 54 + n.log2 - m.log2 = more at *
  refine near_bnd _ (by omega) (by omega) ?_
  by_cases hm : m = 0
  · subst hm
    simp
  have hn0 : 0 < n := Nat.pos_of_ne_zero hn
  have hX := Nat.div_add_mod (m * 2 ^ more) n
  have hX1 : 1 ≤ m * 2 ^ more / n := (Nat.le_div_iff_mul_le hn0).2 (by have := hmore hm; omega)
  -- the quotient is not too great
  have up : ∀ y : Nat, y * n ≤ m * 2 ^ more → y * 2 ^ (q + a) ≤ 2 ^ (p + more + b) := fun y hy => by
    have h3 : y * 2 ^ q ≤ m * 2 ^ more * 2 ^ b := by
      refine Nat.le_trans (Nat.mul_le_mul_left y hq) ?_
      rw [← e', ← Nat.mul_assoc]
      exact Nat.mul_le_mul_right _ hy
    rw [Nat.pow_add, ← Nat.mul_assoc]
    refine Nat.le_trans (Nat.mul_le_mul_right _ h3) ?_
    rw [show m * 2 ^ more * 2 ^ b * 2 ^ a = m * 2 ^ a * 2 ^ (more + b) by rw [Nat.pow_add]; simp only [Nat.mul_assoc, Nat.mul_comm, Nat.mul_left_comm], e, Nat.add_assoc, Nat.pow_add 2 p]
    exact Nat.mul_le_mul_right _ hp
  have hXn : m * 2 ^ more / n * n ≤ m * 2 ^ more := Nat.div_mul_le_self _ _
  have hK : q + a ≤ p + more + b := by
    have h3 := up 1 (by rw [Nat.one_mul]; exact hmore hm)
    rw [Nat.one_mul] at h3
    exact (Nat.pow_le_pow_iff_right (by omega)).1 h3
  have hXK : m * 2 ^ more / n ≤ 2 ^ (p + more + b - (q + a)) := by
    have h3 := up _ hXn
    have h4 : 2 ^ (p + more + b) = 2 ^ (p + more + b - (q + a)) * 2 ^ (q + a) := by rw [← Nat.pow_add]; congr 1; omega
    rw [h4] at h3
    exact Nat.le_of_mul_le_mul_right h3 (Nat.two_pow_pos _)
  have key : 2 * (m * 2 ^ more / n) + (m * 2 ^ more % n != 0).toNat ≤ 2 ^ (p + more + b - (q + a) + 1) := by
    rw [Nat.pow_succ]
    cases hs : (m * 2 ^ more % n != 0)
    · simp; omega
    · have hr0 : m * 2 ^ more % n ≠ 0 := by simpa using hs
      have hlt : m * 2 ^ more / n < 2 ^ (p + more + b - (q + a)) := by
        refine Nat.lt_of_le_of_ne hXK fun he => ?_
        -- then n times it is the dividend
        have h3 : n * 2 ^ (p + more + b - (q + a)) < m * 2 ^ more := by rw [← he]; omega
        have h4 : n * 2 ^ (p + more + b - (q + a)) * 2 ^ (a + b) < m * 2 ^ more * 2 ^ (a + b) := Nat.mul_lt_mul_of_pos_right h3 (Nat.two_pow_pos _)
        have h5 : m * 2 ^ more * 2 ^ (a + b) ≤ 2 ^ (p + more + b) := by
          rw [show m * 2 ^ more * 2 ^ (a + b) = m * 2 ^ a * 2 ^ (more + b) by rw [Nat.pow_add, Nat.pow_add]; simp only [Nat.mul_assoc, Nat.mul_comm, Nat.mul_left_comm], e, Nat.add_assoc, Nat.pow_add 2 p]
          exact Nat.mul_le_mul_right _ hp
        have h6 : 2 ^ (p + more + b) ≤ n * 2 ^ (p + more + b - (q + a)) * 2 ^ (a + b) := by
          rw [show n * 2 ^ (p + more + b - (q + a)) * 2 ^ (a + b) = n * 2 ^ b * 2 ^ (p + more + b - (q + a) + a) by rw [Nat.pow_add, Nat.pow_add]; simp only [Nat.mul_assoc, Nat.mul_comm, Nat.mul_left_comm], e']
          refine Nat.le_trans ?_ (Nat.mul_le_mul_right _ hq)
          rw [← Nat.pow_add]
          exact Nat.pow_le_pow_right (by omega) (by omega)
        omega
      simp; omega
  have key2 : (2 * (m * 2 ^ more / n) + (m * 2 ^ more % n != 0).toNat) * 2 ^ 0 ≤ 1 * 2 ^ (p + more + b - (q + a) + 1) := by simpa using key
  have key3 := scale (i' := (-1074 + (a : Int) - (-1074 + b) - more - 1 + 1074).toNat) (j' := p + 1074 - q + (-1074 - (-1074 + (a : Int) - (-1074 + b) - more - 1)).toNat) key2 (by omega)
  rw [Nat.one_mul, Nat.pow_add] at key3
  exact key3

/-- A number of double precision of at most 2 to the power of c places. -/
def bd (c x : Nat) : Prop := fin .f64 x ∧ V .f64 x ≤ 2 ^ c
theorem bd.fin {c x : Nat} (h : bd c x) : fin .f64 x := h.1
theorem bd.up {p x : Nat} (q : Nat) (h : bd p x) (hpq : p ≤ q) : bd q x := ⟨h.1, Nat.le_trans h.2 (Nat.pow_le_pow_right (by omega) hpq)⟩
theorem bd.mul {x y p q : Nat} (r : Nat) (hx : bd p x) (hy : bd q y) (h1 : 1126 ≤ p + q) (h2 : p + q ≤ 3171) (hr : p + q ≤ r + 1074) : bd r (fmul .f64 x y) := by
  have h := fmul_bnd hx.1 hy.1 hx.2 hy.2 h1 h2
  exact bd.up r h (by omega)
theorem bd.add {x y p q : Nat} (r : Nat) (hx : bd p x) (hy : bd q y) (h1 : 53 ≤ r) (h2 : r ≤ 2097) (hp : p + 1 ≤ r) (hq : q + 1 ≤ r) : bd r (fadd .f64 x y) := by
  have h := fadd_bnd hx.1 hy.1 (hx.up (r - 1) (by omega)).2 (hy.up (r - 1) (by omega)).2 (by omega) (by omega)
  exact bd.up r h (by omega)
theorem bd.sub {x y p q : Nat} (r : Nat) (hx : bd p x) (hy : bd q y) (h1 : 53 ≤ r) (h2 : r ≤ 2097) (hp : p + 1 ≤ r) (hq : q + 1 ≤ r) : bd r (fsub .f64 x y) := by
  have h := fsub_bnd hx.1 hy.1 (hx.up (r - 1) (by omega)).2 (hy.up (r - 1) (by omega)).2 (by omega) (by omega)
  exact bd.up r h (by omega)
/-- Not less than 2 to the power of q places. -/
def lo (q y : Nat) : Prop := fin .f64 y ∧ 2 ^ q ≤ V .f64 y
theorem bd.div {x y p q : Nat} (r : Nat) (hx : bd p x) (hy : lo q y) (h1 : q + 52 ≤ p + 1074) (h2 : p + 1074 ≤ 2097 + q) (hr : p + 1074 ≤ r + q) : bd r (fdiv .f64 x y) := by
  have h := fdiv_bnd hx.1 hy.1 hx.2 hy.2 h1 h2
  exact bd.up r h (by omega)
end Go.Fw
/- Whole numbers in double precision; a number less its whole part. No condition. -/
namespace Go.Fw
open Ieee

section ord
variable {k : FloatKind} {x y : Nat} (hx : fin k x) (hy : fin k y)
include hx hy
end ord

theorem fin_of_sub {k : FloatKind} {y : Nat} (h : feq k (fsub k y y) 0 = true) : fin k y := by
  rcases read_cases k.format y with ⟨h1, _⟩ | ⟨_, h1, _⟩ | ⟨_, h2⟩ | ⟨_, t, h2⟩
  · exact Nat.lt_of_lt_of_le h1 (binade_leK k)
  · exact h1
  · exfalso
    have : fsub k y y = qnan k := by
      unfold fsub fop floatBits Format.sub
      simp only [h2]
      generalize (y / k.format.signWeight % 2 == 1) = s
      cases s <;> rfl
    rw [this, feq_nan (isNan_qnan k)] at h
    cases h
  · exfalso
    have hn : isNan k y = true := by
      show (k.format.read y).isNaN = true
      rw [h2]; rfl
    have : fsub k y y = qnan k := fop_nan hn
    rw [this, feq_nan (isNan_qnan k)] at h
    cases h

theorem near_val {k : FloatKind} {s : Bool} {M c r : Nat} (hi : r ≤ k.format.infRung) (h : M * 2 ^ c = mag k.format.binade r) : k.format.nearest s M (k.format.leastPlace + c) = k.format.word s r := by
  refine near_eq k.format s hi ?_
  rw [show (k.format.leastPlace + (c : Int) - k.format.leastPlace).toNat = c by omega, show (k.format.leastPlace - (k.format.leastPlace + (c : Int))).toNat = 0 by omega, Nat.pow_zero, Nat.mul_one]
  exact h

theorem mag_of {B q t : Nat} (h : t < B) : mag B ((q + 1) * B + t) = (B + t) * 2 ^ q := by
  have hB : 0 < B := by omega
  unfold mag
  rw [if_neg (by rw [Nat.succ_mul]; omega), Nat.add_comm _ t, Nat.add_mul_mod_self_right, Nat.mod_eq_of_lt h, Nat.add_mul_div_right _ _ hB, Nat.div_eq_of_lt h]
  congr 2; omega

end Go.Fw
/- The order of floating point numbers by their words. No condition. -/
namespace Go.Fw
open Ieee

theorem cmp_congr {a b c d : Int} (h1 : a < b ↔ c < d) (h2 : b < a ↔ d < c) : compare a b = compare c d := by
  rcases Int.lt_trichotomy a b with h | h | h
  · rw [Int.compare_eq_lt.2 h, Int.compare_eq_lt.2 (h1.1 h)]
  · have : c = d := by
      rcases Int.lt_trichotomy c d with h3 | h3 | h3
      · have := h1.2 h3; omega
      · exact h3
      · have := h2.2 h3; omega
    rw [h, this, cmp_self, cmp_self]
  · rw [Int.compare_eq_gt.2 h, Int.compare_eq_gt.2 (h2.1 h)]

theorem mag_lt_iff {B r s : Nat} (hB : 0 < B) : mag B r < mag B s ↔ r < s := by
  constructor
  · intro h
    rcases Nat.lt_or_ge r s with h1 | h1
    · exact h1
    · have := mag_mono hB h1; omega
  · intro h
    have h1 := mag_mono hB (Nat.le_of_lt h)
    rcases Nat.lt_or_ge (mag B r) (mag B s) with h2 | h2
    · exact h2
    · have := mag_inj hB (show mag B r = mag B s by omega); omega

/-- Where a word stands in the order. -/
def Kw (k : FloatKind) (x : Nat) : Int := if sg k x then -((x % k.format.signWeight : Nat) : Int) else ((x % k.format.signWeight : Nat) : Int)

theorem num_cases {k : FloatKind} {x : Nat} (h : isNan k x = false) : fin k x ∨ (x % k.format.signWeight = k.format.infRung ∧ k.format.read x = .infinity (sg k x)) := by
  rcases read_cases k.format x with ⟨h1, _⟩ | ⟨_, h1, _⟩ | ⟨h1, h2⟩ | ⟨_, t, h2⟩
  · exact .inl (Nat.lt_of_lt_of_le h1 (binade_leK k))
  · exact .inl h1
  · exact .inr ⟨h1, h2⟩
  · exfalso
    have hn : isNan k x = true := by
      show (k.format.read x).isNaN = true
      rw [h2]; rfl
    rw [h] at hn; cases hn

theorem order_key {k : FloatKind} {x y : Nat} (hx : isNan k x = false) (hy : isNan k y = false) : k.format.order x y = some (compare (Kw k x) (Kw k y)) := by
  have hB : 0 < k.format.binade := Nat.two_pow_pos _
  have hI : 0 < k.format.infRung := Nat.lt_of_lt_of_le hB (binade_leK k)
  rcases num_cases hx with fx | ⟨rx, ix⟩ <;> rcases num_cases hy with fy | ⟨ry, iy⟩
  · rw [order_fin fx fy]
    have h0 : mag k.format.binade 0 = 0 := by unfold mag; rw [if_pos hB]
    have key : ∀ r s : Nat, mag k.format.binade r < mag k.format.binade s ↔ r < s := fun r s => mag_lt_iff hB
    congr 1
    unfold Z Kw V
    generalize x % k.format.signWeight = r
    generalize y % k.format.signWeight = s
    have a1 := key r s
    have a2 := key s r
    have a3 := key 0 r
    have a4 := key 0 s
    rw [h0] at a3 a4
    apply cmp_congr
    · cases sg k x <;> cases sg k y <;> simp <;> omega
    · cases sg k x <;> cases sg k y <;> simp <;> omega
  · obtain ⟨m, a, hr, _⟩ := fin_read fx
    unfold Format.order
    rw [hr, iy]
    have fx' : x % k.format.signWeight < k.format.infRung := fx
    show some (if sg k y then Ordering.gt else .lt) = _
    unfold Kw
    rw [ry]
    generalize x % k.format.signWeight = r at *
    cases hs : sg k y
    · rw [if_neg (by simp), Int.compare_eq_lt.2]
      cases sg k x <;> simp <;> omega
    · rw [if_pos rfl, Int.compare_eq_gt.2]
      cases sg k x <;> simp <;> omega
  · obtain ⟨m, a, hr, _⟩ := fin_read fy
    unfold Format.order
    rw [hr, ix]
    have fy' : y % k.format.signWeight < k.format.infRung := fy
    show some (if sg k x then Ordering.lt else .gt) = _
    unfold Kw
    rw [rx]
    generalize y % k.format.signWeight = r at *
    cases hs : sg k x
    · rw [if_neg (by simp), Int.compare_eq_gt.2]
      cases sg k y <;> simp <;> omega
    · rw [if_pos rfl, Int.compare_eq_lt.2]
      cases sg k y <;> simp <;> omega
  · unfold Format.order
    rw [ix, iy]
    show some (compare (sg k y).toNat (sg k x).toNat) = _
    unfold Kw
    rw [rx, ry]
    cases hs : sg k x <;> cases ht : sg k y
    · simp
    · simp only [if_true, Bool.false_eq_true, if_false]
      rw [Int.compare_eq_gt.2 (by omega)]; rfl
    · simp only [if_true, Bool.false_eq_true, if_false]
      rw [Int.compare_eq_lt.2 (by omega)]; rfl
    · simp

section ord
variable {k : FloatKind} {x y : Nat} (hx : isNan k x = false) (hy : isNan k y = false)
include hx hy
theorem fgt_key : fgt k x y = decide (Kw k y < Kw k x) := by
  unfold fgt; rw [order_key hx hy, Bool.eq_iff_iff]; simp [Int.compare_eq_gt]
theorem feq_key : feq k x y = decide (Kw k x = Kw k y) := by
  unfold feq; rw [order_key hx hy, Bool.eq_iff_iff]; simp
end ord

theorem fsub_self {k : FloatKind} {x : Nat} (h : fin k x) : fsub k x x = 0 := by
  obtain ⟨M, c, e, h2⟩ := fsub_fin h h
  rw [Int.sub_self] at e h2
  have hM : M = 0 := by
    rcases Nat.eq_zero_or_pos M with h3 | h3
    · exact h3
    · have := Nat.mul_pos h3 (Nat.two_pow_pos c)
      rw [h2] at this; simp at this
  rw [e, hM, if_pos rfl]
  unfold Format.nearest Format.word
  rw [if_pos rfl]
  cases sg k x <;> rfl

theorem zero_fin (k : FloatKind) : fin k 0 := by
  show 0 % _ < _
  rw [Nat.zero_mod]
  exact Nat.lt_of_lt_of_le (Nat.two_pow_pos _) (binade_leK k)

/-- Finite: its difference with itself is nothing. -/
theorem finite_iff (k : FloatKind) (x : Nat) : feq k (fsub k x x) 0 = true ↔ fin k x := by
  refine ⟨fin_of_sub, fun h => ?_⟩
  rw [fsub_self h, feq_self, fin_nan (zero_fin k)]; rfl

/-! ### words of single precision -/
theorem key32 {x : Nat} (hx : x < 2 ^ 32) : Kw .f32 x = if 2 ^ 31 ≤ x then -((x - 2 ^ 31 : Nat) : Int) else x := by
  unfold Kw sg
  have hsw : FloatKind.f32.format.signWeight = 2 ^ 31 := rfl
  rw [hsw]
  by_cases h : 2 ^ 31 ≤ x
  · rw [if_pos h, show x / 2 ^ 31 % 2 = 1 by omega, if_pos (show ((1 : Nat) == 1) = true from rfl), show x % 2 ^ 31 = x - 2 ^ 31 by omega]
  · rw [if_neg h, show x / 2 ^ 31 % 2 = 0 by omega, if_neg (by simp), show x % 2 ^ 31 = x by omega]
theorem nan32 {x : Nat} (hx : x < 2 ^ 32) : isNan .f32 x = false ↔ -2139095040 ≤ Kw .f32 x ∧ Kw .f32 x ≤ 2139095040 := by
  rw [isNan_iff, decide_eq_false_iff_not, key32 hx]
  have hsw : FloatKind.f32.format.signWeight = 2 ^ 31 := rfl
  have hI : FloatKind.f32.format.infRung = 2139095040 := rfl
  rw [hsw, hI]
  split <;> omega
theorem fin32 {x : Nat} (hx : x < 2 ^ 32) : fin .f32 x ↔ -2139095040 < Kw .f32 x ∧ Kw .f32 x < 2139095040 := by
  unfold fin
  rw [key32 hx]
  have hsw : FloatKind.f32.format.signWeight = 2 ^ 31 := rfl
  have hI : FloatKind.f32.format.infRung = 2139095040 := rfl
  rw [hsw, hI]
  split <;> omega
end Go.Fw
/- Sums and halves that are exact; what is nearest to a number of double precision in single precision. No condition. -/
namespace Go.Fw
open Ieee

theorem scale_eq {a b i j i' j' : Nat} (h : a * 2 ^ i = b * 2 ^ j) (hij : i + j' = i' + j) : a * 2 ^ i' = b * 2 ^ j' :=
  Nat.le_antisymm (scale (Nat.le_of_eq h) hij) (scale (Nat.le_of_eq h.symm) (by omega))
theorem scale_lt {a b i j i' j' : Nat} (h : a * 2 ^ i < b * 2 ^ j) (hij : i + j' = i' + j) : a * 2 ^ i' < b * 2 ^ j' := by
  rcases Nat.lt_or_ge (a * 2 ^ i') (b * 2 ^ j') with h1 | h1
  · exact h1
  · have := scale h1 (show j' + i = j + i' by omega); omega

theorem V_read {k : FloatKind} {x M a : Nat} {s : Bool} (h : k.format.read x = .number s M (k.format.leastPlace + a)) : fin k x ∧ V k x = M * 2 ^ a ∧ sg k x = s := by
  have hf : fin k x := by
    rcases read_cases k.format x with ⟨h1, _⟩ | ⟨_, h1, _⟩ | ⟨_, h2⟩ | ⟨_, t, h2⟩
    · exact Nat.lt_of_lt_of_le h1 (binade_leK k)
    · exact h1
    · rw [h] at h2; cases h2
    · rw [h] at h2; cases h2
  obtain ⟨m, b, hr, e⟩ := fin_read hf
  rw [h] at hr
  simp only [Datum.number.injEq] at hr
  obtain ⟨h1, h2, h3⟩ := hr
  have : a = b := by omega
  subst this
  exact ⟨hf, by rw [← e, h2], h1.symm⟩

/-- Widening keeps the number. -/
theorem wide_val {x K : Nat} (hK : K = 925) (hx : x < 2 ^ 32) (hf : fin .f32 x) : fin .f64 (fwide x) ∧ V .f64 (fwide x) = V .f32 x * 2 ^ K ∧ sg .f64 (fwide x) = sg .f32 x := by
  have hn := fin_nan hf
  have hL : FloatKind.f32.format.leastPlace = -149 := rfl
  have hL2 : FloatKind.f64.format.leastPlace = -1074 := rfl
  have hB : FloatKind.f32.format.binade = 2 ^ 23 := rfl
  have hI : FloatKind.f32.format.infRung = 255 * FloatKind.f32.format.binade := rfl
  obtain ⟨m, a, hr, e⟩ := fin_read hf
  have hm : m < 2 ^ 24 ∧ a ≤ 253 := by
    rcases read_cases FloatKind.f32.format x with ⟨h1, h2⟩ | ⟨_, h1, h2⟩ | ⟨_, h2⟩ | ⟨_, t, h2⟩
    · rw [hr] at h2
      simp only [Datum.number.injEq] at h2
      omega
    · rw [hr] at h2
      simp only [Datum.number.injEq] at h2
      have hB0 : 0 < FloatKind.f32.format.binade := Nat.two_pow_pos _
      have h3 := Nat.mod_lt (x % FloatKind.f32.format.signWeight) hB0
      have h4 : x % FloatKind.f32.format.signWeight / FloatKind.f32.format.binade < 255 := Nat.div_lt_of_lt_mul (by rw [Nat.mul_comm, ← hI]; exact h1)
      omega
    · rw [hr] at h2; cases h2
    · rw [hr] at h2; cases h2
  by_cases hm0 : m = 0
  · have hz : V .f32 x = 0 := by rw [← e, hm0, Nat.zero_mul]
    have hw := fwide_num hx hn hr
    rw [hm0] at hw
    have hw2 : fwide x = FloatKind.f64.format.word (sg .f32 x) 0 := by
      rw [hw]; unfold Format.nearest; rw [if_pos rfl]
    obtain ⟨w1, w2, w3⟩ := word_fin (k := .f64) (s := sg .f32 x) (g := 0) (by decide)
    rw [hw2, hz, Nat.zero_mul]
    exact ⟨w1, w2, w3⟩
  · have hl : m.log2 < 24 := (Nat.log2_lt hm0).2 hm.1
    have hw := wide_read hx hn hr hm0 hm.1 (by omega) (by omega)
    have h2 := V_read (k := .f64) (a := a + m.log2 + 873) (hw.trans (by rw [hL, hL2, show (-149 + (a : Int) + m.log2 - 52) = -1074 + ((a + m.log2 + 873 : Nat) : Int) by omega]))
    refine ⟨h2.1, ?_, h2.2.2⟩
    rw [h2.2.1, ← e, Nat.mul_assoc, Nat.mul_assoc, ← Nat.pow_add, ← Nat.pow_add, show 52 - m.log2 + (a + m.log2 + 873) = a + K by omega]

theorem wide_Z {x K : Nat} (hK : K = 925) (hx : x < 2 ^ 32) (hf : fin .f32 x) : fin .f64 (fwide x) ∧ Z .f64 (fwide x) = Z .f32 x * ((2 ^ K : Nat) : Int) := by
  obtain ⟨h1, h2, h3⟩ := wide_val hK hx hf
  refine ⟨h1, ?_⟩
  unfold Z
  rw [h2, h3, Int.natCast_mul]
  cases sg .f32 x
  · simp
  · simp only [if_true, Int.neg_mul]

/-- Numbers of at most 53 digits are numbers of double precision. -/
theorem rep64 {m K : Nat} (h1 : 52 ≤ K) (h2 : K ≤ 1990) (hm : m < 2 ^ 53) : ∃ r, r < FloatKind.f64.format.infRung ∧ mag FloatKind.f64.format.binade r = m * 2 ^ K := by
  have hB : FloatKind.f64.format.binade = 2 ^ 52 := rfl
  have hI : FloatKind.f64.format.infRung = 2047 * FloatKind.f64.format.binade := rfl
  have hBp : 0 < FloatKind.f64.format.binade := Nat.two_pow_pos _
  by_cases h0 : m = 0
  · exact ⟨0, by omega, by subst h0; rw [Nat.zero_mul]; unfold mag; rw [if_pos hBp]⟩
  · have hl : m.log2 < 53 := (Nat.log2_lt h0).2 hm
    have h1 : 2 ^ m.log2 * 2 ^ (52 - m.log2) ≤ m * 2 ^ (52 - m.log2) := Nat.mul_le_mul_right _ (Nat.log2_self_le h0)
    have h2 : m * 2 ^ (52 - m.log2) < 2 ^ (m.log2 + 1) * 2 ^ (52 - m.log2) := Nat.mul_lt_mul_of_pos_right Nat.lt_log2_self (Nat.two_pow_pos _)
    rw [← Nat.pow_add, show m.log2 + (52 - m.log2) = 52 by omega, ← hB] at h1
    rw [← Nat.pow_add, show m.log2 + 1 + (52 - m.log2) = 52 + 1 by omega, Nat.pow_succ, ← hB] at h2
    refine ⟨(K + m.log2 - 52 + 1) * FloatKind.f64.format.binade + (m * 2 ^ (52 - m.log2) - FloatKind.f64.format.binade), ?_, ?_⟩
    · have : (K + m.log2 - 52 + 1) * FloatKind.f64.format.binade ≤ 2000 * FloatKind.f64.format.binade := Nat.mul_le_mul_right _ (by omega)
      omega
    · rw [mag_of (by omega), show FloatKind.f64.format.binade + (m * 2 ^ (52 - m.log2) - FloatKind.f64.format.binade) = m * 2 ^ (52 - m.log2) by omega, Nat.mul_assoc, ← Nat.pow_add]
      congr 2; omega

theorem word_Z {k : FloatKind} {s : Bool} {r : Nat} {z : Int} (hr : r < k.format.infRung) (hm : mag k.format.binade r = z.natAbs) (hs : z ≠ 0 → (s = decide (z < 0))) : fin k (k.format.word s r) ∧ Z k (k.format.word s r) = z := by
  obtain ⟨w1, w2, w3⟩ := word_fin (k := k) (s := s) hr
  refine ⟨w1, ?_⟩
  unfold Z
  rw [w2, w3, hm]
  by_cases hz : z = 0
  · subst hz; simp
  · rw [hs hz]
    by_cases h : z < 0
    · rw [decide_eq_true h, if_pos rfl]; omega
    · rw [decide_eq_false h, if_neg (by simp)]; omega

/-- A sum that can be written is exact. -/
theorem fadd_exact {k : FloatKind} {x y r : Nat} (hx : fin k x) (hy : fin k y) (hr : r < k.format.infRung) (hm : mag k.format.binade r = (Z k x + Z k y).natAbs) : fin k (fadd k x y) ∧ Z k (fadd k x y) = Z k x + Z k y := by
  obtain ⟨M, c, e, h⟩ := fadd_fin hx hy
  rw [e, near_val (Nat.le_of_lt hr) (h.trans hm.symm)]
  exact word_Z hr hm fun hz => by rw [if_neg hz]
/-- 2 in double precision. -/
abbrev two64 : Nat := 4611686018427387904
theorem read_two : FloatKind.f64.format.read two64 = .number false 4503599627370496 (-51) := by decide +kernel
theorem log_two : (4503599627370496 : Nat).log2 = 52 := by decide +kernel

theorem half_exact {x r : Nat} (hx : fin .f64 x) (hr : r < FloatKind.f64.format.infRung) (hm : 2 * mag FloatKind.f64.format.binade r = V .f64 x) : fin .f64 (fdiv .f64 x two64) ∧ 2 * Z .f64 (fdiv .f64 x two64) = Z .f64 x := by
  obtain ⟨m, a, hrd, e⟩ := fin_read hx
  have hL : FloatKind.f64.format.leastPlace = -1074 := rfl
  have hfb : FloatKind.f64.format.fractionBits = 52 := rfl
  by_cases hm0 : m = 0
  · -- nothing
    have hV : V .f64 x = 0 := by rw [← e, hm0, Nat.zero_mul]
    have hd : fdiv .f64 x two64 = FloatKind.f64.format.word (sg .f64 x) 0 := by
      unfold fdiv fop floatBits Format.div
      rw [hrd, read_two, hm0]
      simp only [Datum.quotient, Nat.zero_shiftLeft, Nat.zero_div, Nat.zero_mod, Bool.xor_false]
      unfold Format.write Format.nearest
      rfl
    obtain ⟨w1, w2, w3⟩ := word_fin (k := .f64) (s := sg .f64 x) (g := 0) (by decide)
    rw [hd]
    refine ⟨w1, ?_⟩
    have h0 : Z .f64 (FloatKind.f64.format.word (sg .f64 x) 0) = 0 := by
      have := Z_abs (k := .f64) (x := FloatKind.f64.format.word (sg .f64 x) 0)
      rw [w2] at this
      have h0 : mag FloatKind.f64.format.binade 0 = 0 := by decide +kernel
      omega
    have h1 := Z_abs (k := .f64) (x := x)
    omega
  · have hl : m.log2 ≤ 52 := by
      have hB : FloatKind.f64.format.binade = 2 ^ 52 := rfl
      have hlt : m < 2 ^ 53 := by
        rcases read_cases FloatKind.f64.format x with ⟨h1, h2⟩ | ⟨_, h1, h2⟩ | ⟨_, h2⟩ | ⟨_, t, h2⟩
        · rw [hrd] at h2
          simp only [Datum.number.injEq] at h2
          omega
        · rw [hrd] at h2
          simp only [Datum.number.injEq] at h2
          have hB0 : 0 < FloatKind.f64.format.binade := Nat.two_pow_pos _
          have h3 := Nat.mod_lt (x % FloatKind.f64.format.signWeight) hB0
          omega
        · rw [hrd] at h2; cases h2
        · rw [hrd] at h2; cases h2
      have := (Nat.log2_lt hm0).2 hlt
      omega
    have hd : fdiv .f64 x two64 = FloatKind.f64.format.nearest (sg .f64 x) (2 * (m * 2 ^ (54 - m.log2))) (-1074 + (a : Int) - (-51) - (106 - m.log2 : Nat) - 1) := by
      unfold fdiv fop floatBits Format.div
      rw [hrd, read_two]
      simp only [Datum.quotient, log_two, hfb, Bool.xor_false, Nat.shiftLeft_eq, hL]
      have h1 : 52 + 2 + 52 - m.log2 = 54 - m.log2 + 52 := by omega
      have h2 : m * 2 ^ (54 - m.log2 + 52) = m * 2 ^ (54 - m.log2) * 4503599627370496 := by rw [Nat.pow_add, ← Nat.mul_assoc]
      rw [h1, h2, Nat.mul_div_cancel _ (by decide), Nat.mul_mod_left]
      simp only [show (4503599627370496 : Nat) ≠ 0 by decide, if_false, bne_self_eq_false, Bool.toNat_false, Nat.add_zero]
      rfl
    have hn : FloatKind.f64.format.nearest (sg .f64 x) (2 * (m * 2 ^ (54 - m.log2))) (-1074 + (a : Int) - (-51) - (106 - m.log2 : Nat) - 1) = FloatKind.f64.format.word (sg .f64 x) r := by
      refine near_eq _ _ (Nat.le_of_lt hr) ?_
      rw [hL]
      have h1 : 2 * (m * 2 ^ (54 - m.log2)) * 2 ^ a = mag FloatKind.f64.format.binade r * 2 ^ (56 - m.log2) := by
        have h2 : 2 ^ (56 - m.log2) = 2 * (2 ^ (54 - m.log2) * 2) := by
          rw [show 56 - m.log2 = 54 - m.log2 + 1 + 1 by omega, Nat.pow_succ, Nat.pow_succ]; omega
        rw [h2, show mag FloatKind.f64.format.binade r * (2 * (2 ^ (54 - m.log2) * 2)) = 2 * mag FloatKind.f64.format.binade r * (2 ^ (54 - m.log2) * 2) by simp only [Nat.mul_comm, Nat.mul_left_comm, Nat.mul_assoc], hm, ← e]
        simp only [Nat.mul_assoc, Nat.mul_comm, Nat.mul_left_comm]
      exact scale_eq h1 (by omega)
    rw [hd, hn]
    obtain ⟨w1, w2, w3⟩ := word_fin (k := .f64) (s := sg .f64 x) hr
    refine ⟨w1, ?_⟩
    unfold Z
    rw [w2, w3, ← hm]
    cases sg .f64 x <;> simp <;> omega
end Go.Fw
/- What is nearest between two neighbours. No condition. -/
namespace Go.Fw
open Ieee

theorem cut_between (s : Bool) {n d N : Nat} (h1 : N * 2 ^ d ≤ n) (h2 : n < (N + 1) * 2 ^ d) :
    (2 * n < (2 * N + 1) * 2 ^ d → Toward.even.cut s n d = N) ∧ ((2 * N + 1) * 2 ^ d < 2 * n → Toward.even.cut s n d = N + 1) ∧ (2 * n = (2 * N + 1) * 2 ^ d → Toward.even.cut s n d = N + N % 2) := by
  have hp := Nat.two_pow_pos d
  have e0 : (N + 1) * 2 ^ d = N * 2 ^ d + 2 ^ d := Nat.succ_mul ..
  have e1 : (2 * N + 1) * 2 ^ d = 2 * (N * 2 ^ d) + 2 ^ d := by rw [Nat.succ_mul, Nat.mul_assoc]
  unfold Toward.cut
  dsimp only
  rcases cut_pow n d with ⟨_, e⟩ | ⟨_, e, h3, h4⟩
  · rw [e]
    have hd : n / 2 ^ d = N := Nat.div_eq_of_lt_le h1 h2
    have hm : n % 2 ^ d = n - N * 2 ^ d := by
      have := Nat.div_add_mod n (2 ^ d)
      rw [hd, Nat.mul_comm] at this
      omega
    rw [hd, hm, e1]
    refine ⟨fun h => ?_, fun h => ?_, fun h => ?_⟩
    · rw [decide_eq_false (by omega), show (2 ^ d == 2 * (n - N * 2 ^ d)) = false by rw [beq_eq_false_iff_ne]; omega]
      simp
    · rw [decide_eq_true (by omega)]
      simp
    · rw [decide_eq_false (by omega), show (2 ^ d == 2 * (n - N * 2 ^ d)) = true by rw [beq_iff_eq]; omega]
      rcases Nat.mod_two_eq_zero_or_one N with h5 | h5 <;> rw [h5] <;> simp
  · have hN : N = 0 := by
      rcases Nat.eq_zero_or_pos N with h0 | h0
      · exact h0
      · have : 1 * 2 ^ d ≤ N * 2 ^ d := Nat.mul_le_mul_right _ h0
        omega
    subst hN
    have h5 : 2 ^ (n.log2 + 2) ≤ 2 ^ d := Nat.pow_le_pow_right (by omega) (by omega)
    rw [e, Nat.div_eq_of_lt (by omega), Nat.mod_eq_of_lt (by omega), decide_eq_false (by omega), show (2 ^ (n.log2 + 2) == 2 * n) = false by rw [beq_eq_false_iff_ne]; omega]
    simp
    omega

/-- Where a number between two neighbours is written. -/
theorem near_place (f : Format) (s : Bool) {m N q : Nat} {e : Int} (hm : m ≠ 0) (hN : N < 2 * f.binade) (hq : q = 0 ∨ f.binade ≤ N)
    (h1 : N * 2 ^ (q + (f.leastPlace - e).toNat) ≤ m * 2 ^ (e - f.leastPlace).toNat) (h2 : m * 2 ^ (e - f.leastPlace).toNat < (N + 1) * 2 ^ (q + (f.leastPlace - e).toNat)) :
    f.nearest s m e = f.word s (min (q * f.binade + Toward.even.cut s (m * 2 ^ (e - (f.leastPlace + q)).toNat) (f.leastPlace + q - e).toNat) f.infRung) := by
  have hB : 0 < f.binade := Nat.two_pow_pos _
  have hBe : f.binade = 2 ^ f.fractionBits := rfl
  obtain ⟨p, kept, hn, a1, a2, hk⟩ := near_parts f s e hm
  have hlog : m < 2 ^ (m.log2 + 1) := Nat.lt_log2_self
  have hlow : 2 ^ m.log2 ≤ m := Nat.log2_self_le hm
  have hqp : q ≤ p := by
    rcases hq with h0 | h0
    · omega
    · have h3 : 2 ^ (f.fractionBits + q + (f.leastPlace - e).toNat) < 2 ^ (m.log2 + 1 + (e - f.leastPlace).toNat) := by
        rw [Nat.pow_add 2 (m.log2 + 1), Nat.add_assoc, Nat.pow_add 2 f.fractionBits, ← hBe]
        exact Nat.lt_of_le_of_lt (Nat.le_trans (Nat.mul_le_mul_right _ h0) h1) (Nat.mul_lt_mul_of_pos_right hlog (Nat.two_pow_pos _))
      have := (Nat.pow_lt_pow_iff_right (by omega)).1 h3
      omega
  have hpq : p ≤ q := by
    rcases Nat.eq_zero_or_pos p with h0 | h0
    · omega
    · have h3 : 2 ^ (m.log2 + (e - f.leastPlace).toNat) < 2 ^ (f.fractionBits + 1 + (q + (f.leastPlace - e).toNat)) := by
        rw [Nat.pow_add 2 m.log2, Nat.pow_add 2 (f.fractionBits + 1), Nat.pow_succ, ← hBe]
        refine Nat.lt_of_le_of_lt (Nat.mul_le_mul_right _ hlow) (Nat.lt_of_lt_of_le h2 (Nat.mul_le_mul_right _ (by omega)))
      have := (Nat.pow_lt_pow_iff_right (by omega)).1 h3
      have := a2 h0
      omega
  have : p = q := by omega
  subst this
  rw [hn, hk, Nat.shiftLeft_eq]

/-- A number of double precision between two neighbours of single precision, narrowed. -/
theorem narrow_place {w N q K : Nat} (hK : K = 925) (hw : fin .f64 w) (hV : V .f64 w ≠ 0) (hN : N < 2 ^ 24) (hq : q = 0 ∨ 2 ^ 23 ≤ N) (hi : q * 2 ^ 23 + N + 1 < 2139095040)
    (h1 : N * 2 ^ (q + K) ≤ V .f64 w) (h2 : V .f64 w < (N + 1) * 2 ^ (q + K)) :
    (2 * V .f64 w < (2 * N + 1) * 2 ^ (q + K) → fconv .f64 .f32 w = some (FloatKind.f32.format.word (sg .f64 w) (q * 2 ^ 23 + N))) ∧
    ((2 * N + 1) * 2 ^ (q + K) < 2 * V .f64 w → fconv .f64 .f32 w = some (FloatKind.f32.format.word (sg .f64 w) (q * 2 ^ 23 + N + 1))) ∧
    (2 * V .f64 w = (2 * N + 1) * 2 ^ (q + K) → fconv .f64 .f32 w = some (FloatKind.f32.format.word (sg .f64 w) (q * 2 ^ 23 + N + N % 2))) := by
  have b1 : q * 2 ^ 23 + N < 2139095040 := Nat.lt_of_succ_lt hi
  have b3 : q * 2 ^ 23 + N + N % 2 < 2139095040 := Nat.lt_of_le_of_lt (Nat.add_le_add_left (Nat.le_of_lt_succ (Nat.mod_lt N (by decide))) _) hi
  obtain ⟨m, a, hr, e⟩ := fin_read hw
  have hL : FloatKind.f32.format.leastPlace = -149 := rfl
  have hL2 : FloatKind.f64.format.leastPlace = -1074 := rfl
  have hB : FloatKind.f32.format.binade = 2 ^ 23 := rfl
  have hI : FloatKind.f32.format.infRung = 2139095040 := rfl
  have hm : m ≠ 0 := by rintro rfl; rw [Nat.zero_mul] at e; exact hV e.symm
  rw [← e] at h1 h2
  have g1 : N * 2 ^ (q + (FloatKind.f32.format.leastPlace - (FloatKind.f64.format.leastPlace + a)).toNat) ≤ m * 2 ^ (FloatKind.f64.format.leastPlace + a - FloatKind.f32.format.leastPlace).toNat := by
    rw [hL, hL2]; exact scale h1 (by omega)
  have g2 : m * 2 ^ (FloatKind.f64.format.leastPlace + a - FloatKind.f32.format.leastPlace).toNat < (N + 1) * 2 ^ (q + (FloatKind.f32.format.leastPlace - (FloatKind.f64.format.leastPlace + a)).toNat) := by
    rw [hL, hL2]; exact scale_lt h2 (by omega)
  have hp := near_place FloatKind.f32.format (sg .f64 w) hm (by rw [hB]; omega) (by rw [hB]; exact hq) g1 g2
  rw [hB, hI] at hp
  have k1 : N * 2 ^ (FloatKind.f32.format.leastPlace + (q : Int) - (FloatKind.f64.format.leastPlace + a)).toNat ≤ m * 2 ^ (FloatKind.f64.format.leastPlace + (a : Int) - (FloatKind.f32.format.leastPlace + q)).toNat := by
    rw [hL, hL2]; exact scale h1 (by omega)
  have k2 : m * 2 ^ (FloatKind.f64.format.leastPlace + (a : Int) - (FloatKind.f32.format.leastPlace + q)).toNat < (N + 1) * 2 ^ (FloatKind.f32.format.leastPlace + (q : Int) - (FloatKind.f64.format.leastPlace + a)).toNat := by
    rw [hL, hL2]; exact scale_lt h2 (by omega)
  obtain ⟨c1, c2, c3⟩ := cut_between (sg .f64 w) k1 k2
  have fin' : ∀ g : Nat, g < 2139095040 → FloatKind.f32.format.nearest (sg .f64 w) m (FloatKind.f64.format.leastPlace + a) = FloatKind.f32.format.word (sg .f64 w) g → fconv .f64 .f32 w = some (FloatKind.f32.format.word (sg .f64 w) g) := fun g hg hn =>
    by
      have hg' : g < FloatKind.f32.format.infRung := by rw [hI]; exact hg
      refine narrow_num hr hn ?_
      rw [word_mod' FloatKind.f32.format _ (Nat.lt_trans hg' FloatKind.f32.format.infRung_lt)]
      exact hg'
  have db : ∀ X Y : Nat, 2 * (X * Y) = 2 * X * Y := fun X Y => (Nat.mul_assoc ..).symm
  rw [← e, db]
  rw [db] at c1 c2 c3
  refine ⟨fun h => ?_, fun h => ?_, fun h => ?_⟩
  · refine fin' _ b1 ?_
    rw [hp, c1 (by rw [hL, hL2]; exact scale_lt h (by omega)), Nat.min_eq_left (Nat.le_of_lt b1)]
  · refine fin' _ hi ?_
    rw [hp, c2 (by rw [hL, hL2]; exact scale_lt h (by omega)), ← Nat.add_assoc, Nat.min_eq_left (Nat.le_of_lt hi)]
  · refine fin' _ b3 ?_
    rw [hp, c3 (by rw [hL, hL2]; exact scale_eq h (by omega)), ← Nat.add_assoc, Nat.min_eq_left (Nat.le_of_lt b3)]

/-- A rung of single precision and its number. -/
theorem rung32 {r : Nat} (hr : r < 2139095040) : ∃ N q, r = q * 2 ^ 23 + N ∧ N < 2 ^ 24 ∧ (q = 0 ∨ 2 ^ 23 ≤ N) ∧ q ≤ 253 ∧ mag FloatKind.f32.format.binade r = N * 2 ^ q ∧ mag FloatKind.f32.format.binade (r + 1) = (N + 1) * 2 ^ q := by
  have hB : FloatKind.f32.format.binade = 2 ^ 23 := rfl
  rw [hB]
  by_cases h : r < 2 ^ 23
  · refine ⟨r, 0, by omega, by omega, .inl rfl, by omega, by unfold mag; rw [if_pos h]; omega, ?_⟩
    by_cases h2 : r + 1 < 2 ^ 23
    · unfold mag; rw [if_pos h2]; omega
    · have : r + 1 = (0 + 1) * 2 ^ 23 + 0 := by omega
      have h3 : (2 ^ 23 + 0) * 2 ^ 0 = (r + 1) * 2 ^ 0 := by omega
      rw [this, mag_of (by decide), h3]
  · obtain ⟨q, t, ht, rfl, e⟩ := mag_parts (Nat.two_pow_pos 23) (Nat.le_of_not_lt h)
    refine ⟨2 ^ 23 + t, q, by omega, by omega, .inr (by omega), by omega, e, ?_⟩
    by_cases h2 : t + 1 < 2 ^ 23
    · rw [Nat.add_assoc, mag_of h2, Nat.add_assoc]
    · have : (q + 1) * 2 ^ 23 + t + 1 = (q + 1 + 1) * 2 ^ 23 + 0 := by omega
      rw [this, mag_of (by decide), show 2 ^ 23 + t + 1 = 2 ^ 23 * 2 by omega, Nat.mul_assoc, Nat.add_zero, ← Nat.pow_succ']

def sgn (s : Bool) (n : Nat) : Int := if s then -(n : Int) else n
theorem sgn_abs (s : Bool) (n : Nat) : (sgn s n).natAbs = n := by unfold sgn; split <;> simp
theorem sgn_add (s : Bool) (m n : Nat) : sgn s m + sgn s n = sgn s (m + n) := by unfold sgn; split <;> omega
theorem sgn_two (s : Bool) (n : Nat) : sgn s (2 * n) = 2 * sgn s n := by unfold sgn; split <;> omega
theorem sg_of_Z {k : FloatKind} {x n : Nat} {s : Bool} (h : Z k x = sgn s n) (hn : n ≠ 0) : sg k x = s ∧ V k x = n := by
  have h1 := Z_abs (k := k) (x := x)
  rw [h, sgn_abs] at h1
  refine ⟨?_, h1.symm⟩
  unfold Z at h
  rw [← h1] at h
  unfold sgn at h
  cases hs : sg k x <;> cases s <;> simp [hs] at h <;> first | rfl | omega
theorem Z_of_key {k : FloatKind} {x r : Nat} {s : Bool} (h : Kw k x = sgn s r) : Z k x = sgn s (mag k.format.binade r) := by
  have hB : 0 < k.format.binade := Nat.two_pow_pos _
  have h0 : mag k.format.binade 0 = 0 := by unfold mag; rw [if_pos hB]
  unfold Kw sgn at h
  unfold Z V sgn
  generalize x % k.format.signWeight = g at *
  cases hs : sg k x <;> cases s <;> simp [hs] at h ⊢
  · rw [show g = r by omega]
  · have : g = 0 ∧ r = 0 := by omega
    rw [this.1, this.2, h0]; simp
  · have : g = 0 ∧ r = 0 := by omega
    rw [this.1, this.2, h0]; simp
  · rw [show g = r by omega]
theorem key_word {k : FloatKind} {s : Bool} {r : Nat} (hr : r < k.format.infRung) : Kw k (k.format.word s r) = sgn s r := by
  have hs := Nat.lt_trans hr k.format.infRung_lt
  obtain ⟨p1, p2⟩ := word_parts k s hs
  obtain ⟨_, _, w3⟩ := word_fin (k := k) (s := s) hr
  unfold Kw sgn
  rw [w3, p2]

/-- Half of a sum of two numbers with one sign. -/
theorem mean_exact {s : Bool} {x y A C P : Nat} (hx : fin .f64 x) (hy : fin .f64 y) (zx : Z .f64 x = sgn s (A * 2 ^ (P + 1))) (zy : Z .f64 y = sgn s (C * 2 ^ (P + 1))) (hA : A + C < 2 ^ 53) (h1 : 52 ≤ P) (h2 : P ≤ 1980) :
    fin .f64 (fdiv .f64 (fadd .f64 x y) two64) ∧ Z .f64 (fdiv .f64 (fadd .f64 x y) two64) = sgn s ((A + C) * 2 ^ P) := by
  obtain ⟨r, hr, er⟩ := rep64 (K := P + 1) (by omega) (by omega) hA
  have hsum : Z .f64 x + Z .f64 y = sgn s ((A + C) * 2 ^ (P + 1)) := by rw [zx, zy, sgn_add, ← Nat.add_mul]
  obtain ⟨f1, f2⟩ := fadd_exact hx hy hr (by rw [hsum, sgn_abs]; exact er)
  obtain ⟨r', hr', er'⟩ := rep64 (K := P) h1 (by omega) hA
  have hV : V .f64 (fadd .f64 x y) = (A + C) * 2 ^ (P + 1) := by rw [← Z_abs, f2, hsum, sgn_abs]
  obtain ⟨g1, g2⟩ := half_exact f1 hr' (by rw [er', hV, Nat.pow_succ]; simp only [Nat.mul_comm, Nat.mul_left_comm])
  refine ⟨g1, ?_⟩
  rw [f2, hsum, Nat.pow_succ, show (A + C) * (2 ^ P * 2) = 2 * ((A + C) * 2 ^ P) by rw [← Nat.mul_assoc, Nat.mul_comm], sgn_two] at g2
  omega
end Go.Fw
/- Plain facts for printed texts: what an optional value comes to; loops with invariants; conditions as propositions. No condition. -/
namespace Go.Fw

/-- It comes to a value with the property. -/
def Ret {α : Type} (x : Option α) (Q : α → Prop) : Prop := ∃ y, x = some y ∧ Q y

theorem Ret.pure {α : Type} {y : α} {Q : α → Prop} (h : Q y) : Ret (some y) Q := ⟨y, rfl, h⟩
theorem Ret.bind {α β : Type} {x : Option α} {f : α → Option β} {Q : β → Prop} (h : Ret x fun y => Ret (f y) Q) : Ret (Option.bind x f) Q := by
  obtain ⟨y, rfl, z, hz, hq⟩ := h
  exact ⟨z, hz, hq⟩
theorem Ret.cond {α : Type} {c : Bool} {a b : Option α} {Q : α → Prop} (h : c = true → Ret a Q) (h' : c = false → Ret b Q) : Ret (bif c then a else b) Q := by
  cases c
  · exact h' rfl
  · exact h rfl
theorem Ret.ix {α : Type} {i : Int} {n : Nat} {f : Nat → Option α} {Q : α → Prop} (h0 : 0 ≤ i) (h1 : i < n) (h : Ret (f i.toNat) Q) : Ret (Option.bind (ix i n) f) Q := by
  rw [ix_ok h0 h1]; exact h
theorem Ret.mono {α : Type} {x : Option α} {P Q : α → Prop} (h : Ret x P) (hpq : ∀ y, P y → Q y) : Ret x Q := by
  obtain ⟨y, hy, hp⟩ := h
  exact ⟨y, hy, hpq y hp⟩
/-- Both come to values that belong together. -/
def Ret2 {α β : Type} (x : Option α) (x' : Option β) (Q : α → β → Prop) : Prop := ∃ y y', x = some y ∧ x' = some y' ∧ Q y y'

theorem Ret2.pure {α β : Type} {y : α} {y' : β} {Q : α → β → Prop} (h : Q y y') : Ret2 (some y) (some y') Q := ⟨y, y', rfl, rfl, h⟩
theorem Ret2.cond {α β : Type} {c c' : Bool} {a b : Option α} {a' b' : Option β} {Q : α → β → Prop} (hc : c = c') (h : c = true → Ret2 a a' Q) (h' : c = false → Ret2 b b' Q) : Ret2 (bif c then a else b) (bif c' then a' else b') Q := by
  subst hc
  cases c
  · exact h' rfl
  · exact h rfl
theorem Ret2.mono {α β : Type} {x : Option α} {x' : Option β} {P Q : α → β → Prop} (h : Ret2 x x' P) (hpq : ∀ y y', P y y' → Q y y') : Ret2 x x' Q := by
  obtain ⟨y, y', hy, hy', hp⟩ := h
  exact ⟨y, y', hy, hy', hpq y y' hp⟩
/-- Both come to the same value, which has the property. -/
def Same {α : Type} (x x' : Option α) (Q : α → Prop) : Prop := ∃ y, x = some y ∧ x' = some y ∧ Q y
theorem Same.of {α : Type} {x x' : Option α} {Q : α → Prop} (h : x = x') (hr : Ret x Q) : Same x x' Q := by
  obtain ⟨y, hy, hq⟩ := hr
  exact ⟨y, hy, h ▸ hy, hq⟩
theorem Same.ret {α : Type} {x x' : Option α} {Q : α → Prop} (h : Same x x' Q) : Ret x Q := by
  obtain ⟨y, hy, _, hq⟩ := h
  exact ⟨y, hy, hq⟩
theorem Same.eq {α : Type} {x x' : Option α} {Q : α → Prop} (h : Same x x' Q) : x = x' := by
  obtain ⟨y, hy, hy', hq⟩ := h
  rw [hy, hy']
theorem Same.two {α : Type} {x x' : Option α} {Q : α → Prop} (h : Same x x' Q) : Ret2 x x' fun y y' => y = y' ∧ Q y := by
  obtain ⟨y, hy, hy', hq⟩ := h
  exact ⟨y, y, hy, hy', rfl, hq⟩
theorem Ret2.same {α : Type} {x x' : Option α} {Q : α → Prop} (h : Ret2 x x' fun y y' => y = y' ∧ Q y) : Same x x' Q := by
  obtain ⟨y, _, hy, hy', rfl, hq⟩ := h
  exact ⟨y, hy, hy', hq⟩
theorem Same.pure {α : Type} {y : α} {Q : α → Prop} (h : Q y) : Same (some y) (some y) Q := ⟨y, rfl, rfl, h⟩

/-! ### conditions as propositions -/
theorem ilt_T (a b : Int) : (ilt a b = true) = (a < b) := by simp [ilt]
theorem ilt_F (a b : Int) : (ilt a b = false) = (b ≤ a) := by simp [ilt]
theorem ile_T (a b : Int) : (ile a b = true) = (a ≤ b) := by simp [ile]
theorem ile_F (a b : Int) : (ile a b = false) = (b < a) := by simp [ile]
theorem ieq_T (a b : Int) : (ieq a b = true) = (a = b) := by simp [ieq]
theorem ieq_F (a b : Int) : (ieq a b = false) = (a ≠ b) := by simp [ieq]
theorem bnot_T (b : Bool) : ((!b) = true) = (b = false) := by cases b <;> simp
theorem bnot_F (b : Bool) : ((!b) = false) = (b = true) := by cases b <;> simp
theorem ble_T (a b : Nat) : (Nat.ble a b = true) = (a ≤ b) := by simp
theorem ble_F (a b : Nat) : (Nat.ble a b = false) = (b < a) := by
  rw [eq_iff_iff]
  constructor
  · intro h
    rcases Nat.lt_or_ge b a with h' | h'
    · exact h'
    · rw [Nat.ble_eq_true_of_le h'] at h; cases h
  · intro h
    cases hb : Nat.ble a b
    · rfl
    · exact absurd (Nat.le_of_ble_eq_true hb) (by omega)
theorem nz_T (a : Int) : (nz a = true) = (a ≠ 0) := by simp [nz]
theorem nz_F (a : Int) : (nz a = false) = (a = 0) := by simp [nz]
theorem nonneg_T (a : Int) : (nonneg a = true) = (0 ≤ a) := by simp [nonneg]
theorem nonneg_F (a : Int) : (nonneg a = false) = (a < 0) := by simp [nonneg]

theorem irem_nn {a b : Int} (h : 0 ≤ a) : irem .i64 a b = a % b := Int.tmod_eq_emod_of_nonneg h
/-! ### loops that look at one element after another -/
theorem iadd_nat {i : Nat} (h : i < 4611686018427387904) : iadd .i64 (i : Int) 1 = ((i + 1 : Nat) : Int) := by rw [iadd_ok (by omega) (by omega)]; omega
end Go.Fw
/- Floating point numbers as rational numbers, and how far each operation is from the exact one. No condition. -/
namespace Go.Fw
open Ieee

/-- Powers of two as rational numbers. -/
def w2 (e : Int) : Rat := (2 : Rat) ^ e

/-- x is at most e away from a. -/
def Near (x a e : Rat) : Prop := a - e ≤ x ∧ x ≤ a + e

theorem Near.mono {x a e f : Rat} (h : Near x a e) (hf : e ≤ f) : Near x a f := ⟨by have := h.1; grind, by have := h.2; grind⟩
theorem Near.trans {x a b e f : Rat} (h : Near x a e) (h' : Near a b f) : Near x b (e + f) := ⟨by have := h.1; have := h'.1; grind, by have := h.2; have := h'.2; grind⟩
theorem Near.refl {x e : Rat} (h : 0 ≤ e) : Near x x e := ⟨by grind, by grind⟩
theorem Near.neg {x a e : Rat} (h : Near x a e) : Near (-x) (-a) e := ⟨by have := h.2; grind, by have := h.1; grind⟩

/-- the number of a word -/
def R (k : FloatKind) (x : Nat) : Rat := (Z k x : Rat) * w2 k.format.leastPlace

/-! ### rounding -/
def top : FloatKind → Int
  | .f32 => 127
  | .f64 => 1023

end Go.Fw
/- The operations on floating point numbers, as rational numbers with errors. No condition. -/
namespace Go.Fw
open Ieee

def sgR (s : Bool) (v : Rat) : Rat := if s then -v else v

theorem Near.sg {x a e : Rat} (s : Bool) (h : Near x a e) : Near (sgR s x) (sgR s a) e := by
  cases s
  · exact h
  · exact h.neg

/-- Between -M and M. -/
def In (a M : Rat) : Prop := -M ≤ a ∧ a ≤ M

theorem In.sgR {s : Bool} {v M : Rat} (h : In (Fw.sgR s v) M) (_ : 0 ≤ v) : v ≤ M := by
  cases s
  · exact h.2
  · have := h.1; simp [Fw.sgR] at this; grind
theorem In.mono {a M N : Rat} (h : In a M) (hn : M ≤ N) : In a N := ⟨by have := h.1; grind, by have := h.2; grind⟩
theorem In.mul {a b A B : Rat} (h : In a A) (h' : In b B) : In (a * b) (A * B) := by
  have h1 := Rat.mul_nonneg (a := A - a) (b := B + b) (by have := h.2; grind) (by have := h'.1; grind)
  have h2 := Rat.mul_nonneg (a := A + a) (b := B - b) (by have := h.1; grind) (by have := h'.2; grind)
  have h3 := Rat.mul_nonneg (a := A - a) (b := B - b) (by have := h.2; grind) (by have := h'.2; grind)
  have h4 := Rat.mul_nonneg (a := A + a) (b := B + b) (by have := h.1; grind) (by have := h'.1; grind)
  exact ⟨by grind, by grind⟩
theorem In.add {a b A B : Rat} (h : In a A) (h' : In b B) : In (a + b) (A + B) := ⟨by have := h.1; have := h'.1; grind, by have := h.2; have := h'.2; grind⟩
theorem In.sub {a b A B : Rat} (h : In a A) (h' : In b B) : In (a - b) (A + B) := ⟨by have := h.1; have := h'.2; grind, by have := h.2; have := h'.1; grind⟩
theorem In.neg {a A : Rat} (h : In a A) : In (-a) A := ⟨by have := h.2; grind, by have := h.1; grind⟩

section ops
variable {k : FloatKind} {x y : Nat}

/-! ### exact results -/
end ops

/-! ### numbers that words have: whole numbers with few digits at a place -/
end Go.Fw
/- Quotients, conversions, roots and comparisons, as rational numbers with errors. No condition. -/
namespace Go.Fw
open Ieee

section ops
variable {k : FloatKind} {x y : Nat}

end ops
end Go.Fw
/- Conversions and roots, as rational numbers with errors. No condition. -/
namespace Go.Fw
open Ieee

/-! ### square roots -/
end Go.Fw
