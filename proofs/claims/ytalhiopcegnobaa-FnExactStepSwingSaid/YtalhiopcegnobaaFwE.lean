/- The abstract interpreter, its soundness, and plain facts: part 5. No condition. -/
import Derived.Test.YtalhiopcegnobaaFwD
/- Floating point numbers: the order turned round; how great a result can be; what can be narrowed. No condition. -/
namespace Go.Fw
open Ieee

/-! ### how great a number can be -/
/-- A number of at most P binary places before the point, or a not-a-number. -/
def dB (P : Int) : Datum → Prop
  | .number _ m e => m = 0 ∨ e + m.log2 ≤ P
  | .infinity _ => False
  | .nan _ _ => True

theorem cut_le {fb m drop : Nat} (s : Bool) (hd : m.log2 ≤ fb + drop) : Toward.even.cut s m drop ≤ 2 * 2 ^ fb := by
  unfold Toward.cut
  have hm : m < 2 ^ (m.log2 + 1) := Nat.lt_log2_self
  have h1 : m / 1 <<< min drop (m.log2 + 2) ≤ 2 * 2 ^ fb - 1 := by
    rw [Nat.one_shiftLeft]
    have hpos := Nat.two_pow_pos fb
    have : m / 2 ^ min drop (m.log2 + 2) < 2 * 2 ^ fb := by
      refine Nat.div_lt_of_lt_mul ?_
      rw [show 2 * 2 ^ fb = 2 ^ (fb + 1) by rw [Nat.pow_succ]; omega, ← Nat.pow_add]
      exact Nat.lt_of_lt_of_le hm (Nat.pow_le_pow_right (by omega) (by omega))
    omega
  have h2 : ∀ b : Bool, b.toNat ≤ 1 := fun b => by cases b <;> simp
  have h3 := Nat.two_pow_pos fb
  dsimp only
  have := h2 (decide (1 <<< min drop (m.log2 + 2) < 2 * (m % 1 <<< min drop (m.log2 + 2))) || (1 <<< min drop (m.log2 + 2) == 2 * (m % 1 <<< min drop (m.log2 + 2)) && m / 1 <<< min drop (m.log2 + 2) % 2 == 1))
  omega

theorem near_rung (f : Format) (s : Bool) {m : Nat} {e P : Int} {q : Nat} (hm : m ≠ 0) (hP : e + m.log2 ≤ P) (hq : max (P - f.fractionBits) f.leastPlace - f.leastPlace ≤ q) :
    ∃ r, f.nearest s m e = f.word s (min r f.infRung) ∧ r ≤ q * f.binade + 2 * f.binade := by
  unfold Format.nearest
  rw [if_neg hm]
  refine ⟨_, rfl, ?_⟩
  generalize hl : max (e + (m.log2 : Int) - f.fractionBits) f.leastPlace = last
  have h1 : (last - f.leastPlace).toNat ≤ q := by omega
  refine Nat.add_le_add (Nat.mul_le_mul_right _ h1) ?_
  show _ ≤ 2 * 2 ^ f.fractionBits
  by_cases hd : last ≤ e
  · rw [show (last - e).toNat = 0 by omega, cut_zero, Nat.shiftLeft_eq]
    have h7 : m < 2 ^ (m.log2 + 1) := Nat.lt_log2_self
    have h8 : m * 2 ^ (e - last).toNat < 2 ^ (m.log2 + 1) * 2 ^ (e - last).toNat := Nat.mul_lt_mul_of_pos_right h7 (Nat.two_pow_pos _)
    rw [← Nat.pow_add] at h8
    have h9 : 2 ^ (m.log2 + 1 + (e - last).toNat) ≤ 2 ^ (f.fractionBits + 1) := Nat.pow_le_pow_right (by omega) (by omega)
    rw [Nat.pow_succ 2 f.fractionBits] at h9
    omega
  · rw [show (e - last).toNat = 0 by omega]
    exact cut_le s (by simp only [Nat.shiftLeft_zero]; omega)

/-- What can be narrowed. -/
theorem narrow_ok {x : Nat} (h : dB 126 (FloatKind.f64.format.read x)) : ∃ r, fconv .f64 .f32 x = some r := by
  unfold fconv
  cases hx : isNan .f64 x
  · unfold floatToFloatBits
    rw [cond_f, if_neg (by decide)]
    change dB 126 (FloatKind.f64.decode x) at h
    cases hr : FloatKind.f64.decode x with
    | infinity s => exact ⟨_, rfl⟩
    | nan s t =>
      have : isNan .f64 x = true := by unfold isNan; rw [hr]; rfl
      rw [hx] at this; cases this
    | number s m e =>
      rw [hr] at h
      have hI : FloatKind.f32.format.infRung = 255 * FloatKind.f32.format.binade := rfl
      have hB : 0 < FloatKind.f32.format.binade := Nat.two_pow_pos _
      have e1 : FloatKind.f32.format.fractionBits = 23 := rfl
      have e2 : FloatKind.f32.format.leastPlace = -149 := rfl
      have hs := FloatKind.f32.format.infRung_lt
      have key : (FloatKind.f32.format.read (FloatKind.f32.format.nearest s m e)).isInfinity = false := by
        generalize FloatKind.f32.format = fm at *
        have fin : ∀ g, g < fm.infRung → (fm.read (fm.word s g)).isInfinity = false := fun g hg => by
          obtain ⟨m', e', hr', _⟩ := read_fin fm (fm.word s g) (by rw [word_mod fm s (by omega)]; exact hg)
          rw [hr']; rfl
        by_cases hm : m = 0
        · unfold Format.nearest
          rw [if_pos hm]
          exact fin 0 (by omega)
        · have hP : e + m.log2 ≤ 126 := h.elim (fun h => absurd h hm) fun h => h
          obtain ⟨r, hr, hle⟩ := near_rung fm s hm hP (q := 252) (by rw [e1, e2]; omega)
          have hlt : r < fm.infRung := by omega
          rw [hr, show min r fm.infRung = r by omega]
          exact fin r hlt
      have key' : (FloatKind.f32.decode (FloatKind.f32.encode (.number s m e))).isInfinity = false := key
      refine ⟨FloatKind.f32.encode (.number s m e), ?_⟩
      simp only [key', Bool.false_eq_true, if_false]
  · exact ⟨_, rfl⟩

/-- Canonical words. -/
def okF (k : FloatKind) (x : Nat) : Prop := x < 2 ^ k.format.width ∧ canon k x = x
theorem okF.lt {k : FloatKind} {x : Nat} (h : okF k x) : x < 2 ^ k.format.width := h.1
theorem okF.lt32 {x : Nat} (h : okF .f32 x) : x < 2 ^ 32 := h.1
theorem okF.canon {k : FloatKind} {x : Nat} (h : okF k x) : Fw.canon k x = x := h.2
theorem okF.nan {k : FloatKind} {x : Nat} (h : okF k x) (hn : isNan k x = true) : x = qnan k := by rw [← h.canon, canon_nan hn]
theorem okF.of_num {k : FloatKind} {x : Nat} (h : x < 2 ^ k.format.width) (hn : isNan k x = false) : okF k x := ⟨h, canon_num hn⟩
theorem okF_qnan (k : FloatKind) : okF k (qnan k) := ⟨qnan_lt k, by rw [canon_nan (isNan_qnan k)]⟩

theorem map_write_lt (k : FloatKind) {o : Option Datum} {r : Nat} (h : o.map k.format.write = some r) : r < 2 ^ k.format.width := by
  cases o with
  | none => cases h
  | some d => cases h; exact k.format.write_lt d
theorem floatBits_lt {op : BinOp} {k : FloatKind} {x y r : Nat} (h : floatBits op k x y = some r) : r < 2 ^ k.format.width := by
  unfold floatBits at h
  split at h
  · exact map_write_lt k h
  · exact map_write_lt k h
  · exact map_write_lt k h
  · exact map_write_lt k h
  · cases h
theorem fop_okF (op : BinOp) (k : FloatKind) (x y : Nat) : okF k (fop op k x y) := by
  unfold fop
  cases h : floatBits op k x y with
  | none => exact okF_qnan k
  | some r => exact .of_num (floatBits_lt h) (floatBits_not_nan h)
theorem fadd_okF (k : FloatKind) (x y : Nat) : okF k (fadd k x y) := fop_okF _ _ _ _
theorem fmul_okF (k : FloatKind) (x y : Nat) : okF k (fmul k x y) := fop_okF _ _ _ _
theorem fconv_okF {s d : FloatKind} {x r : Nat} (hx : x < 2 ^ s.format.width) (h : fconv s d x = some r) : okF d r := by
  unfold fconv at h
  cases hn : isNan s x
  · rw [hn, cond_f] at h
    exact ⟨(floatToFloatBits_rel hx hn h).1, (floatToFloatBits_rel hx hn h).2⟩
  · rw [hn, cond_t] at h
    cases h; exact okF_qnan d
theorem fwide_okF {x : Nat} (hx : x < 2 ^ 32) : okF .f64 (fwide x) := fconv_okF (s := .f32) hx (fconv_wide hx)
theorem fop_nan {op : BinOp} {k : FloatKind} {x y : Nat} (h : isNan k x = true) : fop op k x y = qnan k := by
  unfold fop; rw [floatBits_nan_left h]; rfl
theorem feq_nan {k : FloatKind} {x y : Nat} (h : isNan k x = true) : feq k x y = false := by
  unfold feq; rw [order_nan_left h]; rfl
end Go.Fw
/- Floating point numbers: what is widened and narrowed again is the same. No condition. -/
namespace Go.Fw
open Ieee

theorem fwide_nan {x : Nat} (hx : x < 2 ^ 32) (hn : isNan .f32 x = true) : fwide x = qnan .f64 := by
  have hw := fconv_wide hx
  unfold fconv at hw
  rw [hn, cond_t] at hw
  exact (Option.some.inj hw).symm

end Go.Fw
/- Floating point numbers as whole numbers of the least place: rounding keeps the order. No condition. -/
namespace Go.Fw
open Ieee

theorem scale {a b i j i' j' : Nat} (h : a * 2 ^ i ≤ b * 2 ^ j) (hij : i + j' = i' + j) : a * 2 ^ i' ≤ b * 2 ^ j' := by
  rcases Nat.le_total i' i with hl | hl
  · obtain ⟨c, rfl⟩ := Nat.exists_eq_add_of_le hl
    obtain rfl : j = j' + c := by omega
    rw [Nat.pow_add, Nat.pow_add, ← Nat.mul_assoc, ← Nat.mul_assoc] at h
    exact Nat.le_of_mul_le_mul_right h (Nat.two_pow_pos c)
  · obtain ⟨c, rfl⟩ := Nat.exists_eq_add_of_le hl
    obtain rfl : j' = j + c := by omega
    rw [Nat.pow_add, Nat.pow_add, ← Nat.mul_assoc, ← Nat.mul_assoc]
    exact Nat.mul_le_mul_right _ h

theorem cut_pow (n d : Nat) : (d ≤ n.log2 + 2 ∧ 1 <<< min d (n.log2 + 2) = 2 ^ d) ∨ (n.log2 + 2 < d ∧ 1 <<< min d (n.log2 + 2) = 2 ^ (n.log2 + 2) ∧ 2 * n < 2 ^ (n.log2 + 2) ∧ n < 2 ^ d) := by
  rw [Nat.one_shiftLeft]
  rcases Nat.lt_or_ge (n.log2 + 2) d with hd | hd
  · have h1 : n < 2 ^ (n.log2 + 1) := Nat.lt_log2_self
    have h2 : 2 ^ (n.log2 + 2) = 2 ^ (n.log2 + 1) * 2 := Nat.pow_succ ..
    have h3 : 2 ^ (n.log2 + 2) ≤ 2 ^ d := Nat.pow_le_pow_right (by omega) (by omega)
    exact .inr ⟨hd, by rw [Nat.min_eq_right (by omega)], by omega, by omega⟩
  · exact .inl ⟨hd, by rw [Nat.min_eq_left hd]⟩

theorem cut_up (s : Bool) {n d N : Nat} (h : n ≤ N * 2 ^ d) : Toward.even.cut s n d ≤ N := by
  unfold Toward.cut
  dsimp only
  rcases cut_pow n d with ⟨_, e⟩ | ⟨_, e, h1, _⟩
  · rw [e]
    have hp := Nat.two_pow_pos d
    have h2 := Nat.div_add_mod n (2 ^ d)
    have h3 : ∀ b : Bool, b.toNat ≤ 1 := fun b => by cases b <;> simp
    by_cases h0 : n % 2 ^ d = 0
    · rw [h0]
      have : n / 2 ^ d ≤ N := Nat.div_le_of_le_mul (by rw [Nat.mul_comm]; exact h)
      have a1 : decide (2 ^ d < 2 * 0) = false := by simp
      have a2 : (2 ^ d == 2 * 0) = false := by rw [beq_eq_false_iff_ne]; omega
      rw [a1, a2]
      simpa using this
    · have : n / 2 ^ d < N := by
        refine Nat.div_lt_of_lt_mul ?_
        rw [Nat.mul_comm]
        rcases Nat.lt_or_ge n (N * 2 ^ d) with h4 | h4
        · exact h4
        · exfalso
          have : n = N * 2 ^ d := by omega
          rw [this, Nat.mul_mod_left] at h0
          exact h0 rfl
      have := h3 (decide (2 ^ d < 2 * (n % 2 ^ d)) || (2 ^ d == 2 * (n % 2 ^ d) && n / 2 ^ d % 2 == 1))
      omega
  · rw [e, Nat.div_eq_of_lt (by omega), Nat.mod_eq_of_lt (by omega)]
    have a1 : decide (2 ^ (n.log2 + 2) < 2 * n) = false := by simp; omega
    have a2 : (2 ^ (n.log2 + 2) == 2 * n) = false := by rw [beq_eq_false_iff_ne]; omega
    rw [a1, a2]
    simp

theorem cut_low (s : Bool) {n d N : Nat} (h : N * 2 ^ d ≤ n) : N ≤ Toward.even.cut s n d := by
  unfold Toward.cut
  dsimp only
  rcases cut_pow n d with ⟨_, e⟩ | ⟨_, e, h1, h2⟩
  · rw [e]
    have : N ≤ n / 2 ^ d := (Nat.le_div_iff_mul_le (Nat.two_pow_pos d)).2 h
    omega
  · have : N = 0 := by
      rcases Nat.eq_zero_or_pos N with h0 | h0
      · exact h0
      · have : 1 * 2 ^ d ≤ N * 2 ^ d := Nat.mul_le_mul_right _ h0
        omega
    rw [this]; exact Nat.zero_le _

theorem zero_cut (s : Bool) (n d : Nat) : Toward.zero.cut s n d = n / 2 ^ d := by
  unfold Toward.cut
  dsimp only
  rcases cut_pow n d with ⟨_, e⟩ | ⟨_, e, h1, h2⟩
  · rw [e]; simp
  · rw [e, Nat.div_eq_of_lt (by omega), Nat.div_eq_of_lt h2]; simp

/-- Where a number is written. -/
theorem near_parts (f : Format) (s : Bool) {m : Nat} (e : Int) (hm : m ≠ 0) :
    ∃ p kept : Nat, f.nearest s m e = f.word s (min (p * f.binade + kept) f.infRung) ∧ (e + m.log2 ≤ f.leastPlace + p + f.fractionBits) ∧ (1 ≤ p → f.leastPlace + p = e + m.log2 - f.fractionBits) ∧
      kept = Toward.even.cut s (m <<< (e - (f.leastPlace + p)).toNat) (f.leastPlace + p - e).toNat := by
  unfold Format.nearest
  rw [if_neg hm]
  refine ⟨(max (e + (m.log2 : Int) - f.fractionBits) f.leastPlace - f.leastPlace).toNat, _, rfl, ?_, ?_, ?_⟩
  · omega
  · omega
  · have : f.leastPlace + ((max (e + (m.log2 : Int) - f.fractionBits) f.leastPlace - f.leastPlace).toNat : Int) = max (e + (m.log2 : Int) - f.fractionBits) f.leastPlace := by omega
    rw [this]

theorem kept_le (f : Format) (s : Bool) {m : Nat} {e : Int} {p : Nat} (h : e + m.log2 ≤ f.leastPlace + p + f.fractionBits) :
    Toward.even.cut s (m <<< (e - (f.leastPlace + p)).toNat) (f.leastPlace + p - e).toNat ≤ 2 * f.binade := by
  have h7 : m < 2 ^ (m.log2 + 1) := Nat.lt_log2_self
  refine cut_up s ?_
  rw [Nat.shiftLeft_eq]
  refine Nat.le_trans (Nat.le_of_lt (Nat.mul_lt_mul_of_pos_right h7 (Nat.two_pow_pos _))) ?_
  rw [show 2 * f.binade = 2 ^ (f.fractionBits + 1) by unfold Format.binade; rw [Nat.pow_succ]; omega, ← Nat.pow_add, ← Nat.pow_add]
  exact Nat.pow_le_pow_right (by omega) (by omega)

theorem kept_ge (f : Format) (s : Bool) {m : Nat} {e : Int} {p : Nat} (hm : m ≠ 0) (h : f.leastPlace + p = e + m.log2 - f.fractionBits) :
    f.binade ≤ Toward.even.cut s (m <<< (e - (f.leastPlace + p)).toNat) (f.leastPlace + p - e).toNat := by
  refine cut_low s ?_
  rw [Nat.shiftLeft_eq]
  refine Nat.le_trans ?_ (Nat.mul_le_mul_right _ (Nat.log2_self_le hm))
  unfold Format.binade
  rw [← Nat.pow_add, ← Nat.pow_add]
  exact Nat.pow_le_pow_right (by omega) (by omega)

theorem mag_parts {B r : Nat} (hB : 0 < B) (h : B ≤ r) : ∃ q t, t < B ∧ r = (q + 1) * B + t ∧ mag B r = (B + t) * 2 ^ q := by
  have hd : 1 ≤ r / B := (Nat.le_div_iff_mul_le hB).2 (by omega)
  refine ⟨r / B - 1, r % B, Nat.mod_lt r hB, ?_, by unfold mag; rw [if_neg (by omega)]⟩
  rw [show r / B - 1 + 1 = r / B by omega, Nat.mul_comm]
  exact (Nat.div_add_mod r B).symm

theorem near_le (f : Format) (s : Bool) {m : Nat} {e : Int} {r : Nat} (h : m * 2 ^ (e - f.leastPlace).toNat ≤ mag f.binade r * 2 ^ (f.leastPlace - e).toNat) : ∃ g, f.nearest s m e = f.word s g ∧ g ≤ r ∧ g ≤ f.infRung := by
  by_cases hm : m = 0
  · subst hm
    exact ⟨0, by unfold Format.nearest; rw [if_pos rfl], by omega, by omega⟩
  obtain ⟨p, kept, hn, h1, h2, hk⟩ := near_parts f s e hm
  refine ⟨_, hn, Nat.le_trans (Nat.min_le_left ..) ?_, Nat.min_le_right ..⟩
  have hB : 0 < f.binade := Nat.two_pow_pos _
  have hBe : f.binade = 2 ^ f.fractionBits := rfl
  have hlog : 2 ^ m.log2 ≤ m := Nat.log2_self_le hm
  -- the number reaches 2 to the power of its logarithm
  have low : ∀ c : Nat, mag f.binade r < 2 ^ c → e + m.log2 < f.leastPlace + c := fun c hc => by
    have h3 : 2 ^ m.log2 * 2 ^ (e - f.leastPlace).toNat < 2 ^ c * 2 ^ (f.leastPlace - e).toNat :=
      Nat.lt_of_le_of_lt (Nat.le_trans (Nat.mul_le_mul_right _ hlog) h) (Nat.mul_lt_mul_of_pos_right hc (Nat.two_pow_pos _))
    rw [← Nat.pow_add, ← Nat.pow_add] at h3
    have := (Nat.pow_lt_pow_iff_right (by omega)).1 h3
    omega
  by_cases hr : r < f.binade
  · have hmag : mag f.binade r = r := by unfold mag; rw [if_pos hr]
    rw [hmag] at h low
    have := low f.fractionBits (by rw [← hBe]; exact hr)
    have hp : p = 0 := by
      rcases Nat.eq_zero_or_pos p with h0 | h0
      · exact h0
      · have := h2 h0; omega
    subst hp
    rw [hk, Nat.zero_mul, Nat.zero_add]
    refine cut_up s ?_
    rw [Nat.shiftLeft_eq]
    exact scale h (by omega)
  · obtain ⟨q, t, ht, rfl, hmag⟩ := mag_parts hB (Nat.le_of_not_lt hr)
    rw [hmag] at h low
    have h3 := low (f.fractionBits + q + 1) (by
      rw [show f.fractionBits + q + 1 = f.fractionBits + 1 + q by omega, Nat.pow_add, Nat.pow_succ, ← hBe]
      exact Nat.mul_lt_mul_of_pos_right (by omega) (Nat.two_pow_pos _))
    have hpq : p ≤ q := by
      rcases Nat.eq_zero_or_pos p with h0 | h0
      · omega
      · have := h2 h0; omega
    rcases Nat.lt_or_ge p q with hlt | hge
    · have := kept_le f s h1
      rw [← hk] at this
      have h4 : p * f.binade + f.binade ≤ q * f.binade := by rw [← Nat.succ_mul]; exact Nat.mul_le_mul_right _ hlt
      rw [Nat.succ_mul]
      omega
    · have hp : p = q := by omega
      subst hp
      have : kept ≤ f.binade + t := by
        rw [hk]
        refine cut_up s ?_
        rw [Nat.shiftLeft_eq]
        rw [Nat.mul_assoc, ← Nat.pow_add] at h
        exact scale h (by omega)
      rw [Nat.succ_mul]
      omega

theorem near_ge (f : Format) (s : Bool) {m : Nat} {e : Int} {r : Nat} (hi : r ≤ f.infRung) (h : mag f.binade r * 2 ^ (f.leastPlace - e).toNat ≤ m * 2 ^ (e - f.leastPlace).toNat) : ∃ g, f.nearest s m e = f.word s g ∧ r ≤ g := by
  by_cases hm : m = 0
  · subst hm
    refine ⟨0, by unfold Format.nearest; rw [if_pos rfl], ?_⟩
    rw [Nat.zero_mul] at h
    have hp := Nat.two_pow_pos (f.leastPlace - e).toNat
    have h0 : mag f.binade r = 0 := by
      rcases Nat.eq_zero_or_pos (mag f.binade r) with h0 | h0
      · exact h0
      · have := Nat.mul_le_mul h0 hp; omega
    have hB : 0 < f.binade := Nat.two_pow_pos _
    by_cases hr : r < f.binade
    · unfold mag at h0; rw [if_pos hr] at h0; omega
    · have := (mag_lt hB (Nat.le_of_not_lt hr)).1
      have := Nat.mul_le_mul hB (Nat.two_pow_pos (r / f.binade - 1))
      omega
  obtain ⟨p, kept, hn, h1, h2, hk⟩ := near_parts f s e hm
  refine ⟨_, hn, Nat.le_min.2 ⟨?_, hi⟩⟩
  have hB : 0 < f.binade := Nat.two_pow_pos _
  have hBe : f.binade = 2 ^ f.fractionBits := rfl
  have hlog : m < 2 ^ (m.log2 + 1) := Nat.lt_log2_self
  have big : 1 ≤ p → f.binade ≤ kept := fun hp => by rw [hk]; exact kept_ge f s hm (h2 hp)
  by_cases hr : r < f.binade
  · rcases Nat.eq_zero_or_pos p with h0 | h0
    · subst h0
      rw [hk, Nat.zero_mul, Nat.zero_add]
      refine cut_low s ?_
      rw [Nat.shiftLeft_eq]
      have hmag : mag f.binade r = r := by unfold mag; rw [if_pos hr]
      rw [hmag] at h
      exact scale h (by omega)
    · have := big h0; omega
  · obtain ⟨q, t, ht, rfl, hmag⟩ := mag_parts hB (Nat.le_of_not_lt hr)
    rw [hmag] at h
    have h3 : f.leastPlace + f.fractionBits + q < e + m.log2 + 1 := by
      have h3 : 2 ^ (f.fractionBits + q) * 2 ^ (f.leastPlace - e).toNat < 2 ^ (m.log2 + 1) * 2 ^ (e - f.leastPlace).toNat := by
        refine Nat.lt_of_le_of_lt (Nat.le_trans (Nat.mul_le_mul_right _ ?_) h) (Nat.mul_lt_mul_of_pos_right hlog (Nat.two_pow_pos _))
        rw [Nat.pow_add, ← hBe]
        exact Nat.mul_le_mul_right _ (by omega)
      rw [← Nat.pow_add, ← Nat.pow_add] at h3
      have := (Nat.pow_lt_pow_iff_right (by omega)).1 h3
      omega
    have hpq : q ≤ p := by omega
    rcases Nat.lt_or_ge q p with hlt | hge
    · have := big (by omega)
      have h4 : q * f.binade + f.binade ≤ p * f.binade := by rw [← Nat.succ_mul]; exact Nat.mul_le_mul_right _ hlt
      rw [Nat.succ_mul]
      omega
    · have hp : p = q := by omega
      subst hp
      have : f.binade + t ≤ kept := by
        rw [hk]
        refine cut_low s ?_
        rw [Nat.shiftLeft_eq]
        rw [Nat.mul_assoc, ← Nat.pow_add] at h
        exact scale h (by omega)
      rw [Nat.succ_mul]
      omega

theorem near_eq (f : Format) (s : Bool) {m : Nat} {e : Int} {r : Nat} (hi : r ≤ f.infRung) (h : m * 2 ^ (e - f.leastPlace).toNat = mag f.binade r * 2 ^ (f.leastPlace - e).toNat) : f.nearest s m e = f.word s r := by
  obtain ⟨g, h1, h2, _⟩ := near_le f s (Nat.le_of_eq h)
  obtain ⟨g', h3, h4⟩ := near_ge f s hi (Nat.le_of_eq h.symm)
  have : g = g' := by
    rw [h1] at h3
    unfold Format.word at h3
    cases s <;> simp at h3 <;> omega
  subst this
  rw [h1, show g = r by omega]

theorem mag_mono {B r s : Nat} (hB : 0 < B) (h : r ≤ s) : mag B r ≤ mag B s := by
  by_cases hr : r < B
  · by_cases hs : s < B
    · unfold mag; rw [if_pos hr, if_pos hs]; exact h
    · obtain ⟨q, t, _, _, e⟩ := mag_parts hB (Nat.le_of_not_lt hs)
      rw [e]
      unfold mag
      rw [if_pos hr]
      have : (B + t) * 1 ≤ (B + t) * 2 ^ q := Nat.mul_le_mul_left _ (Nat.two_pow_pos q)
      omega
  · obtain ⟨q, t, ht, rfl, e⟩ := mag_parts hB (Nat.le_of_not_lt hr)
    obtain ⟨q', t', ht', rfl, e'⟩ := mag_parts hB (Nat.le_trans (Nat.le_of_not_lt hr) h)
    rw [e, e']
    rcases Nat.lt_trichotomy q q' with h1 | h1 | h1
    · have h2 : 2 ^ q * 2 ≤ 2 ^ q' := by rw [← Nat.pow_succ]; exact Nat.pow_le_pow_right (by omega) h1
      calc (B + t) * 2 ^ q ≤ (B * 2) * 2 ^ q := Nat.mul_le_mul_right _ (by omega)
        _ = B * (2 ^ q * 2) := by rw [Nat.mul_assoc, Nat.mul_comm 2]
        _ ≤ (B + t') * 2 ^ q' := Nat.mul_le_mul (by omega) h2
    · subst h1
      exact Nat.mul_le_mul_right _ (by omega)
    · exfalso
      have : (q' + 1 + 1) * B ≤ (q + 1) * B := Nat.mul_le_mul_right _ (by omega)
      rw [Nat.succ_mul (q' + 1)] at this
      omega

/-! ### words as whole numbers of the least place -/
def fin (k : FloatKind) (x : Nat) : Prop := x % k.format.signWeight < k.format.infRung
def V (k : FloatKind) (x : Nat) : Nat := mag k.format.binade (x % k.format.signWeight)
def sg (k : FloatKind) (x : Nat) : Bool := x / k.format.signWeight % 2 == 1
def Z (k : FloatKind) (x : Nat) : Int := if sg k x then -(V k x : Int) else V k x

theorem fin_read {k : FloatKind} {x : Nat} (h : fin k x) : ∃ m a : Nat, k.format.read x = .number (sg k x) m (k.format.leastPlace + a) ∧ m * 2 ^ a = V k x := read_fin k.format x h

theorem word_fin {k : FloatKind} {s : Bool} {g : Nat} (h : g < k.format.infRung) : fin k (k.format.word s g) ∧ V k (k.format.word s g) = mag k.format.binade g ∧ sg k (k.format.word s g) = s := by
  obtain ⟨p1, p2⟩ := word_parts k s (Nat.lt_trans h k.format.infRung_lt)
  refine ⟨by unfold fin; rw [p2]; exact h, by unfold V; rw [p2], ?_⟩
  unfold sg
  rw [p1]
  cases s <;> rfl

theorem fin_nan {k : FloatKind} {x : Nat} (h : fin k x) : isNan k x = false := by
  obtain ⟨m, a, hr, _⟩ := fin_read h
  show (k.format.read x).isNaN = false
  rw [hr]; rfl

/-- A number that is not greater than 2 to the power of c places is written as such a one. -/
theorem near_bnd (s : Bool) {m c : Nat} {e : Int} (h1 : 52 ≤ c) (h2 : c ≤ 2097) (h : m * 2 ^ (e + 1074).toNat ≤ 2 ^ c * 2 ^ (-1074 - e).toNat) :
    fin .f64 (FloatKind.f64.format.nearest s m e) ∧ V .f64 (FloatKind.f64.format.nearest s m e) ≤ 2 ^ c := by
  have hB : FloatKind.f64.format.binade = 2 ^ 52 := rfl
  have hI : FloatKind.f64.format.infRung = 2047 * FloatKind.f64.format.binade := rfl
  have hL : FloatKind.f64.format.leastPlace = -1074 := rfl
  have hBp : 0 < FloatKind.f64.format.binade := Nat.two_pow_pos _
  have hm : mag FloatKind.f64.format.binade ((c - 51) * FloatKind.f64.format.binade) = 2 ^ c := by
    unfold mag
    have : FloatKind.f64.format.binade ≤ (c - 51) * FloatKind.f64.format.binade := Nat.le_mul_of_pos_left _ (by omega)
    rw [if_neg (by omega), Nat.mul_mod_left, Nat.mul_div_cancel _ hBp, hB, Nat.add_zero, ← Nat.pow_add]
    congr 1; omega
  obtain ⟨g, h3, h4, _⟩ := near_le FloatKind.f64.format s (m := m) (e := e) (r := (c - 51) * FloatKind.f64.format.binade) (by
    rw [hL, hm, show e - -1074 = e + 1074 by omega]; exact h)
  have hlt : g < FloatKind.f64.format.infRung := by
    have : (c - 51) * FloatKind.f64.format.binade ≤ 2046 * FloatKind.f64.format.binade := Nat.mul_le_mul_right _ (by omega)
    omega
  rw [h3]
  obtain ⟨w1, w2, _⟩ := word_fin (k := .f64) (s := s) hlt
  exact ⟨w1, by rw [w2, ← hm]; exact mag_mono hBp h4⟩

theorem fmul_bnd {x y p q : Nat} (hx : fin .f64 x) (hy : fin .f64 y) (hp : V .f64 x ≤ 2 ^ p) (hq : V .f64 y ≤ 2 ^ q) (h1 : 1126 ≤ p + q) (h2 : p + q ≤ 3171) : fin .f64 (fmul .f64 x y) ∧ V .f64 (fmul .f64 x y) ≤ 2 ^ (p + q - 1074) := by
  obtain ⟨m, a, hr, e⟩ := fin_read hx
  obtain ⟨n, b, hr', e'⟩ := fin_read hy
  have : fmul .f64 x y = FloatKind.f64.format.nearest (sg .f64 x ^^ sg .f64 y) (m * n) (FloatKind.f64.format.leastPlace + a + (FloatKind.f64.format.leastPlace + b)) := by
    unfold fmul fop floatBits Format.mul
    rw [hr, hr']; rfl
  rw [this]
  have hL : FloatKind.f64.format.leastPlace = -1074 := rfl
  rw [hL]
  refine near_bnd _ (by omega) (by omega) ?_
  have h3 : ∀ K, K ≤ p + q → m * n * 2 ^ (a + b) ≤ 2 ^ (p + q - K) * 2 ^ K := fun K hK => by
    rw [Nat.pow_sub_mul_pow 2 hK, Nat.pow_add 2 p q, Nat.pow_add 2 a b, Nat.mul_mul_mul_comm, e, e']
    exact Nat.mul_le_mul hp hq
  exact scale (h3 1074 (by omega)) (by omega)

theorem cmp_scale (a b : Int) (c : Nat) (hc : 0 < c) : compare (a * c) (b * c) = compare a b := by
  have hc' : (0 : Int) < c := by omega
  rcases Int.lt_trichotomy a b with h | h | h
  · rw [Int.compare_eq_lt.2 h, Int.compare_eq_lt.2 (Int.mul_lt_mul_of_pos_right h hc')]
  · subst h; rw [cmp_self, cmp_self]
  · rw [Int.compare_eq_gt.2 h, Int.compare_eq_gt.2 (Int.mul_lt_mul_of_pos_right h hc')]

/-- A number's signed value at a base not above its place. -/
theorem signed_base (s : Bool) (m : Nat) (L : Int) (a c : Nat) (h : c ≤ a) : signed s m (L + a - (L + c)).toNat * ((2 ^ c : Nat) : Int) = if s then -((m * 2 ^ a : Nat) : Int) else ((m * 2 ^ a : Nat) : Int) := by
  rw [signed_eq, show (L + (a : Int) - (L + c)).toNat = a - c by omega]
  have : m * 2 ^ a = m * 2 ^ (a - c) * 2 ^ c := by rw [Nat.mul_assoc, ← Nat.pow_add, show a - c + c = a by omega]
  rw [this]
  cases s
  · simp
  · simp only [if_true, Int.natCast_mul, Int.neg_mul, Int.one_mul]

theorem order_fin {k : FloatKind} {x y : Nat} (hx : fin k x) (hy : fin k y) : k.format.order x y = some (compare (Z k x) (Z k y)) := by
  obtain ⟨m, a, hr, e⟩ := fin_read hx
  obtain ⟨n, b, hr', e'⟩ := fin_read hy
  unfold Format.order
  rw [hr, hr']
  show some (compare (signed (sg k x) m _) (signed (sg k y) n _)) = _
  have hb : min (k.format.leastPlace + (a : Int)) (k.format.leastPlace + b) = k.format.leastPlace + (min a b : Nat) := by omega
  rw [hb, ← cmp_scale _ _ (2 ^ min a b) (Nat.two_pow_pos _), signed_base _ _ _ _ _ (Nat.min_le_left a b), signed_base _ _ _ _ _ (Nat.min_le_right a b), e, e']
  rfl

/-- What a sum is before it is rounded. -/
theorem sum_fin {k : FloatKind} {x y : Nat} (t : Bool) (hx : fin k x) (hy : fin k y) (z : Int) (hz : z = Z k x + (if t then -Z k y else Z k y)) :
    ∃ (M : Nat) (c : Nat), (k.format.read x).sum (if t then (k.format.read y).opposite else k.format.read y) = some (.number (if z = 0 then sg k x && (t ^^ sg k y) else decide (z < 0)) M (k.format.leastPlace + c)) ∧ M * 2 ^ c = z.natAbs := by
  obtain ⟨m, a, hr, e⟩ := fin_read hx
  obtain ⟨n, b, hr', e'⟩ := fin_read hy
  have ho : (if t then (k.format.read y).opposite else k.format.read y) = .number (t ^^ sg k y) n (k.format.leastPlace + b) := by
    rw [hr']; cases t <;> simp [Datum.opposite]
  rw [ho, hr]
  have hb : min (k.format.leastPlace + (a : Int)) (k.format.leastPlace + b) = k.format.leastPlace + (min a b : Nat) := by omega
  have hs1 := signed_base (sg k x) m k.format.leastPlace a (min a b) (Nat.min_le_left a b)
  have hs2 := signed_base (t ^^ sg k y) n k.format.leastPlace b (min a b) (Nat.min_le_right a b)
  rw [e] at hs1
  rw [e'] at hs2
  have hz1 : (signed (sg k x) m (k.format.leastPlace + a - (k.format.leastPlace + (min a b : Nat))).toNat + signed (t ^^ sg k y) n (k.format.leastPlace + b - (k.format.leastPlace + (min a b : Nat))).toNat) * ((2 ^ min a b : Nat) : Int) = z := by
    rw [Int.add_mul, hs1, hs2, hz]
    unfold Z
    cases t <;> cases sg k y <;> simp
  refine ⟨(signed (sg k x) m (k.format.leastPlace + a - (k.format.leastPlace + (min a b : Nat))).toNat + signed (t ^^ sg k y) n (k.format.leastPlace + b - (k.format.leastPlace + (min a b : Nat))).toNat).natAbs, min a b, ?_, ?_⟩
  · simp only [Datum.sum, hb]
    generalize signed (sg k x) m _ + signed (t ^^ sg k y) n _ = w at *
    have hpos : (0 : Int) < ((2 ^ min a b : Nat) : Int) := by have := Nat.two_pow_pos (min a b); omega
    have h0 : w = 0 ↔ z = 0 := by
      rw [← hz1]
      constructor
      · intro h; rw [h, Int.zero_mul]
      · intro h; rcases Int.mul_eq_zero.1 h with h | h
        · exact h
        · omega
    have hlt : w < 0 ↔ z < 0 := by
      rw [← hz1]
      constructor
      · intro h; exact Int.mul_neg_of_neg_of_pos h hpos
      · intro h
        rcases Int.lt_or_le w 0 with h1 | h1
        · exact h1
        · have := Int.mul_nonneg h1 (Int.le_of_lt hpos); omega
    simp only [h0, hlt]
  · generalize signed (sg k x) m _ + signed (t ^^ sg k y) n _ = w at *
    rw [← hz1, Int.natAbs_mul, Int.natAbs_natCast]

theorem fadd_fin {k : FloatKind} {x y : Nat} (hx : fin k x) (hy : fin k y) : ∃ (M : Nat) (c : Nat), fadd k x y = k.format.nearest (if Z k x + Z k y = 0 then sg k x && sg k y else decide (Z k x + Z k y < 0)) M (k.format.leastPlace + c) ∧ M * 2 ^ c = (Z k x + Z k y).natAbs := by
  obtain ⟨M, c, h1, h2⟩ := sum_fin false hx hy (Z k x + Z k y) (by simp)
  refine ⟨M, c, ?_, h2⟩
  simp only [Bool.false_eq_true, if_false, Bool.false_xor] at h1
  unfold fadd fop floatBits Format.add
  simp only [h1]; rfl

theorem fsub_fin {k : FloatKind} {x y : Nat} (hx : fin k x) (hy : fin k y) : ∃ (M : Nat) (c : Nat), fsub k x y = k.format.nearest (if Z k x - Z k y = 0 then sg k x && !sg k y else decide (Z k x - Z k y < 0)) M (k.format.leastPlace + c) ∧ M * 2 ^ c = (Z k x - Z k y).natAbs := by
  obtain ⟨M, c, h1, h2⟩ := sum_fin true hx hy (Z k x - Z k y) (by simp [Int.sub_eq_add_neg])
  refine ⟨M, c, ?_, h2⟩
  simp only [if_true, Bool.true_xor] at h1
  unfold fsub fop floatBits Format.sub
  simp only [h1]; rfl

theorem Z_abs {k : FloatKind} {x : Nat} : (Z k x).natAbs = V k x := by unfold Z; split <;> simp

theorem near_sum {M c p : Nat} {s : Bool} {z : Int} (h : M * 2 ^ c = z.natAbs) (h1 : 52 ≤ p) (h2 : p ≤ 2097) (hz : z.natAbs ≤ 2 ^ p) :
    fin .f64 (FloatKind.f64.format.nearest s M (FloatKind.f64.format.leastPlace + c)) ∧ V .f64 (FloatKind.f64.format.nearest s M (FloatKind.f64.format.leastPlace + c)) ≤ 2 ^ p := by
  have hL : FloatKind.f64.format.leastPlace = -1074 := rfl
  rw [hL]
  refine near_bnd s h1 h2 ?_
  refine scale (i := c) (j := 0) ?_ (by omega)
  rw [h]; simpa using hz

theorem fadd_bnd {x y p : Nat} (hx : fin .f64 x) (hy : fin .f64 y) (hp : V .f64 x ≤ 2 ^ p) (hq : V .f64 y ≤ 2 ^ p) (h1 : 52 ≤ p) (h2 : p ≤ 2096) : fin .f64 (fadd .f64 x y) ∧ V .f64 (fadd .f64 x y) ≤ 2 ^ (p + 1) := by
  obtain ⟨M, c, e, h⟩ := fadd_fin hx hy
  rw [e]
  refine near_sum h (by omega) (by omega) ?_
  have := Int.natAbs_add_le (Z .f64 x) (Z .f64 y)
  rw [Z_abs, Z_abs] at this
  rw [Nat.pow_succ]; omega

theorem fsub_bnd {x y p : Nat} (hx : fin .f64 x) (hy : fin .f64 y) (hp : V .f64 x ≤ 2 ^ p) (hq : V .f64 y ≤ 2 ^ p) (h1 : 52 ≤ p) (h2 : p ≤ 2096) : fin .f64 (fsub .f64 x y) ∧ V .f64 (fsub .f64 x y) ≤ 2 ^ (p + 1) := by
  obtain ⟨M, c, e, h⟩ := fsub_fin hx hy
  rw [e]
  refine near_sum h (by omega) (by omega) ?_
  have := Int.natAbs_sub_le (Z .f64 x) (Z .f64 y)
  rw [Z_abs, Z_abs] at this
  rw [Nat.pow_succ]; omega

/-- Divided by a number that is not less than 2 to the power of q places. -/
theorem fdiv_bnd {x y p q : Nat} (hx : fin .f64 x) (hy : fin .f64 y) (hp : V .f64 x ≤ 2 ^ p) (hq : 2 ^ q ≤ V .f64 y) (h1 : q + 52 ≤ p + 1074) (h2 : p + 1074 ≤ 2097 + q) : fin .f64 (fdiv .f64 x y) ∧ V .f64 (fdiv .f64 x y) ≤ 2 ^ (p + 1074 - q) := by
  obtain ⟨m, a, hr, e⟩ := fin_read hx
  obtain ⟨n, b, hr', e'⟩ := fin_read hy
  have hn : n ≠ 0 := by
    rintro rfl
    have := Nat.two_pow_pos q
    omega
  have hd : fdiv .f64 x y = FloatKind.f64.format.nearest (sg .f64 x ^^ sg .f64 y) (2 * (m <<< (54 + n.log2 - m.log2) / n) + (m <<< (54 + n.log2 - m.log2) % n != 0).toNat) (FloatKind.f64.format.leastPlace + a - (FloatKind.f64.format.leastPlace + b) - (54 + n.log2 - m.log2 : Nat) - 1) := by
    unfold fdiv fop floatBits Format.div
    rw [hr, hr']
    simp only [Datum.quotient, hn, if_false]
    rfl
  rw [hd]
  have hL : FloatKind.f64.format.leastPlace = -1074 := rfl
  rw [hL, Nat.shiftLeft_eq]
  have hmore : m ≠ 0 → n ≤ m * 2 ^ (54 + n.log2 - m.log2) := fun hm => by
    have h3 : 2 ^ m.log2 * 2 ^ (54 + n.log2 - m.log2) ≤ m * 2 ^ (54 + n.log2 - m.log2) := Nat.mul_le_mul_right _ (Nat.log2_self_le hm)
    rw [← Nat.pow_add] at h3
    have h4 : n < 2 ^ (n.log2 + 1) := Nat.lt_log2_self
    have h5 : 2 ^ (n.log2 + 1) ≤ 2 ^ (m.log2 + (54 + n.log2 - m.log2)) := Nat.pow_le_pow_right (by omega) (by omega)
    omega
  generalize 54 + n.log2 - m.log2 = more at *
  refine near_bnd _ (by omega) (by omega) ?_
  by_cases hm : m = 0
  · subst hm
    simp
  have hn0 : 0 < n := Nat.pos_of_ne_zero hn
  have hX := Nat.div_add_mod (m * 2 ^ more) n
  have hX1 : 1 ≤ m * 2 ^ more / n := (Nat.le_div_iff_mul_le hn0).2 (by have := hmore hm; omega)
  -- the quotient is not too great
  have up : ∀ y : Nat, y * n ≤ m * 2 ^ more → y * 2 ^ (q + a) ≤ 2 ^ (p + more + b) := fun y hy => by
    have h3 : y * 2 ^ q ≤ m * 2 ^ more * 2 ^ b := by
      refine Nat.le_trans (Nat.mul_le_mul_left y hq) ?_
      rw [← e', ← Nat.mul_assoc]
      exact Nat.mul_le_mul_right _ hy
    rw [Nat.pow_add, ← Nat.mul_assoc]
    refine Nat.le_trans (Nat.mul_le_mul_right _ h3) ?_
    rw [show m * 2 ^ more * 2 ^ b * 2 ^ a = m * 2 ^ a * 2 ^ (more + b) by rw [Nat.pow_add]; simp only [Nat.mul_assoc, Nat.mul_comm, Nat.mul_left_comm], e, Nat.add_assoc, Nat.pow_add 2 p]
    exact Nat.mul_le_mul_right _ hp
  have hXn : m * 2 ^ more / n * n ≤ m * 2 ^ more := Nat.div_mul_le_self _ _
  have hK : q + a ≤ p + more + b := by
    have h3 := up 1 (by rw [Nat.one_mul]; exact hmore hm)
    rw [Nat.one_mul] at h3
    exact (Nat.pow_le_pow_iff_right (by omega)).1 h3
  have hXK : m * 2 ^ more / n ≤ 2 ^ (p + more + b - (q + a)) := by
    have h3 := up _ hXn
    have h4 : 2 ^ (p + more + b) = 2 ^ (p + more + b - (q + a)) * 2 ^ (q + a) := by rw [← Nat.pow_add]; congr 1; omega
    rw [h4] at h3
    exact Nat.le_of_mul_le_mul_right h3 (Nat.two_pow_pos _)
  have key : 2 * (m * 2 ^ more / n) + (m * 2 ^ more % n != 0).toNat ≤ 2 ^ (p + more + b - (q + a) + 1) := by
    rw [Nat.pow_succ]
    cases hs : (m * 2 ^ more % n != 0)
    · simp; omega
    · have hr0 : m * 2 ^ more % n ≠ 0 := by simpa using hs
      have hlt : m * 2 ^ more / n < 2 ^ (p + more + b - (q + a)) := by
        refine Nat.lt_of_le_of_ne hXK fun he => ?_
        -- then n times it is the dividend
        have h3 : n * 2 ^ (p + more + b - (q + a)) < m * 2 ^ more := by rw [← he]; omega
        have h4 : n * 2 ^ (p + more + b - (q + a)) * 2 ^ (a + b) < m * 2 ^ more * 2 ^ (a + b) := Nat.mul_lt_mul_of_pos_right h3 (Nat.two_pow_pos _)
        have h5 : m * 2 ^ more * 2 ^ (a + b) ≤ 2 ^ (p + more + b) := by
          rw [show m * 2 ^ more * 2 ^ (a + b) = m * 2 ^ a * 2 ^ (more + b) by rw [Nat.pow_add, Nat.pow_add]; simp only [Nat.mul_assoc, Nat.mul_comm, Nat.mul_left_comm], e, Nat.add_assoc, Nat.pow_add 2 p]
          exact Nat.mul_le_mul_right _ hp
        have h6 : 2 ^ (p + more + b) ≤ n * 2 ^ (p + more + b - (q + a)) * 2 ^ (a + b) := by
          rw [show n * 2 ^ (p + more + b - (q + a)) * 2 ^ (a + b) = n * 2 ^ b * 2 ^ (p + more + b - (q + a) + a) by rw [Nat.pow_add, Nat.pow_add]; simp only [Nat.mul_assoc, Nat.mul_comm, Nat.mul_left_comm], e']
          refine Nat.le_trans ?_ (Nat.mul_le_mul_right _ hq)
          rw [← Nat.pow_add]
          exact Nat.pow_le_pow_right (by omega) (by omega)
        omega
      simp; omega
  have key2 : (2 * (m * 2 ^ more / n) + (m * 2 ^ more % n != 0).toNat) * 2 ^ 0 ≤ 1 * 2 ^ (p + more + b - (q + a) + 1) := by simpa using key
  have key3 := scale (i' := (-1074 + (a : Int) - (-1074 + b) - more - 1 + 1074).toNat) (j' := p + 1074 - q + (-1074 - (-1074 + (a : Int) - (-1074 + b) - more - 1)).toNat) key2 (by omega)
  rw [Nat.one_mul, Nat.pow_add] at key3
  exact key3

/-- A number of double precision of at most 2 to the power of c places. -/
def bd (c x : Nat) : Prop := fin .f64 x ∧ V .f64 x ≤ 2 ^ c
theorem bd.fin {c x : Nat} (h : bd c x) : fin .f64 x := h.1
theorem bd.up {p x : Nat} (q : Nat) (h : bd p x) (hpq : p ≤ q) : bd q x := ⟨h.1, Nat.le_trans h.2 (Nat.pow_le_pow_right (by omega) hpq)⟩
theorem bd.mul {x y p q : Nat} (r : Nat) (hx : bd p x) (hy : bd q y) (h1 : 1126 ≤ p + q) (h2 : p + q ≤ 3171) (hr : p + q ≤ r + 1074) : bd r (fmul .f64 x y) := by
  have h := fmul_bnd hx.1 hy.1 hx.2 hy.2 h1 h2
  exact bd.up r h (by omega)
theorem bd.add {x y p q : Nat} (r : Nat) (hx : bd p x) (hy : bd q y) (h1 : 53 ≤ r) (h2 : r ≤ 2097) (hp : p + 1 ≤ r) (hq : q + 1 ≤ r) : bd r (fadd .f64 x y) := by
  have h := fadd_bnd hx.1 hy.1 (hx.up (r - 1) (by omega)).2 (hy.up (r - 1) (by omega)).2 (by omega) (by omega)
  exact bd.up r h (by omega)
theorem bd.sub {x y p q : Nat} (r : Nat) (hx : bd p x) (hy : bd q y) (h1 : 53 ≤ r) (h2 : r ≤ 2097) (hp : p + 1 ≤ r) (hq : q + 1 ≤ r) : bd r (fsub .f64 x y) := by
  have h := fsub_bnd hx.1 hy.1 (hx.up (r - 1) (by omega)).2 (hy.up (r - 1) (by omega)).2 (by omega) (by omega)
  exact bd.up r h (by omega)
/-- Not less than 2 to the power of q places. -/
def lo (q y : Nat) : Prop := fin .f64 y ∧ 2 ^ q ≤ V .f64 y
theorem bd.div {x y p q : Nat} (r : Nat) (hx : bd p x) (hy : lo q y) (h1 : q + 52 ≤ p + 1074) (h2 : p + 1074 ≤ 2097 + q) (hr : p + 1074 ≤ r + q) : bd r (fdiv .f64 x y) := by
  have h := fdiv_bnd hx.1 hy.1 hx.2 hy.2 h1 h2
  exact bd.up r h (by omega)
end Go.Fw
/- Whole numbers in double precision; a number less its whole part. No condition. -/
namespace Go.Fw
open Ieee

section ord
variable {k : FloatKind} {x y : Nat} (hx : fin k x) (hy : fin k y)
include hx hy
theorem feq_fin : feq k x y = decide (Z k x = Z k y) := by
  unfold feq; rw [order_fin hx hy, Bool.eq_iff_iff]; simp
theorem fle_fin : fle k x y = decide (Z k x ≤ Z k y) := by
  unfold fle; rw [order_fin hx hy, Bool.eq_iff_iff]; simp [Int.compare_eq_lt]; omega
theorem fge_fin : fge k x y = decide (Z k y ≤ Z k x) := by
  unfold fge; rw [order_fin hx hy, Bool.eq_iff_iff]; simp [Int.compare_eq_gt]; omega
end ord

theorem fin_of_sub {k : FloatKind} {y : Nat} (h : feq k (fsub k y y) 0 = true) : fin k y := by
  rcases read_cases k.format y with ⟨h1, _⟩ | ⟨_, h1, _⟩ | ⟨_, h2⟩ | ⟨_, t, h2⟩
  · exact Nat.lt_of_lt_of_le h1 (binade_leK k)
  · exact h1
  · exfalso
    have : fsub k y y = qnan k := by
      unfold fsub fop floatBits Format.sub
      simp only [h2]
      generalize (y / k.format.signWeight % 2 == 1) = s
      cases s <;> rfl
    rw [this, feq_nan (isNan_qnan k)] at h
    cases h
  · exfalso
    have hn : isNan k y = true := by
      show (k.format.read y).isNaN = true
      rw [h2]; rfl
    have : fsub k y y = qnan k := fop_nan hn
    rw [this, feq_nan (isNan_qnan k)] at h
    cases h

theorem word_self {k : FloatKind} {x : Nat} (hx : x < 2 ^ k.format.width) : k.format.word (sg k x) (x % k.format.signWeight) = x := by
  rw [sw_two k] at hx
  have h := two_parts k.format hx
  unfold Format.word sg
  rcases Nat.mod_two_eq_zero_or_one (x / k.format.signWeight) with h1 | h1
  · rw [h1] at h ⊢
    simp; omega
  · rw [h1] at h ⊢
    simp; omega

theorem Z_pos {k : FloatKind} {x : Nat} (h : V k x ≠ 0) : (Z k x < 0 ↔ sg k x = true) ∧ Z k x ≠ 0 := by
  unfold Z
  cases sg k x
  · simp; omega
  · simp; omega

theorem near_val {k : FloatKind} {s : Bool} {M c r : Nat} (hi : r ≤ k.format.infRung) (h : M * 2 ^ c = mag k.format.binade r) : k.format.nearest s M (k.format.leastPlace + c) = k.format.word s r := by
  refine near_eq k.format s hi ?_
  rw [show (k.format.leastPlace + (c : Int) - k.format.leastPlace).toNat = c by omega, show (k.format.leastPlace - (k.format.leastPlace + (c : Int))).toNat = 0 by omega, Nat.pow_zero, Nat.mul_one]
  exact h

theorem fsub_zero {k : FloatKind} {x : Nat} (hx : x < 2 ^ k.format.width) (hf : fin k x) : fsub k x 0 = x := by
  have h0 : fin k 0 := by
    show 0 % _ < _
    rw [Nat.zero_mod]
    exact Nat.lt_of_lt_of_le (Nat.two_pow_pos _) (binade_leK k)
  have hV : V k 0 = 0 := by
    unfold V mag
    rw [Nat.zero_mod, if_pos (show 0 < k.format.binade from Nat.two_pow_pos _)]
  have hs : sg k 0 = false := by
    unfold sg; rw [Nat.zero_div]; rfl
  have hZ : Z k 0 = 0 := by unfold Z; rw [hs, hV]; rfl
  obtain ⟨M, c, e, h⟩ := fsub_fin hf h0
  rw [hZ, Int.sub_zero] at e h
  rw [Z_abs] at h
  rw [e, near_val (Nat.le_of_lt hf) h]
  have : (if Z k x = 0 then sg k x && !sg k 0 else decide (Z k x < 0)) = sg k x := by
    rw [hs]
    by_cases hv : V k x = 0
    · have : Z k x = 0 := by have := Z_abs (k := k) (x := x); omega
      rw [if_pos this]; simp
    · obtain ⟨h1, h2⟩ := Z_pos hv
      rw [if_neg h2, Bool.eq_iff_iff]
      simpa using h1
  rw [this]
  exact word_self hx

theorem mag_of {B q t : Nat} (h : t < B) : mag B ((q + 1) * B + t) = (B + t) * 2 ^ q := by
  have hB : 0 < B := by omega
  unfold mag
  rw [if_neg (by rw [Nat.succ_mul]; omega), Nat.add_comm _ t, Nat.add_mul_mod_self_right, Nat.mod_eq_of_lt h, Nat.add_mul_div_right _ _ hB, Nat.div_eq_of_lt h]
  congr 2; omega

/-- Whole numbers of at most 53 digits are numbers of double precision. -/
theorem rep_nat {m K : Nat} (hK : K = 1074) (hm : m < 2 ^ 53) : ∃ r, r < FloatKind.f64.format.infRung ∧ mag FloatKind.f64.format.binade r = m * 2 ^ K := by
  have hB : FloatKind.f64.format.binade = 2 ^ 52 := rfl
  have hI : FloatKind.f64.format.infRung = 2047 * FloatKind.f64.format.binade := rfl
  have hBp : 0 < FloatKind.f64.format.binade := Nat.two_pow_pos _
  by_cases h0 : m = 0
  · exact ⟨0, by omega, by subst h0; rw [Nat.zero_mul]; unfold mag; rw [if_pos hBp]⟩
  · have hl : m.log2 < 53 := (Nat.log2_lt h0).2 hm
    have h1 : 2 ^ m.log2 * 2 ^ (52 - m.log2) ≤ m * 2 ^ (52 - m.log2) := Nat.mul_le_mul_right _ (Nat.log2_self_le h0)
    have h2 : m * 2 ^ (52 - m.log2) < 2 ^ (m.log2 + 1) * 2 ^ (52 - m.log2) := Nat.mul_lt_mul_of_pos_right Nat.lt_log2_self (Nat.two_pow_pos _)
    rw [← Nat.pow_add, show m.log2 + (52 - m.log2) = 52 by omega, ← hB] at h1
    rw [← Nat.pow_add, show m.log2 + 1 + (52 - m.log2) = 52 + 1 by omega, Nat.pow_succ, ← hB] at h2
    refine ⟨(K + m.log2 - 52 + 1) * FloatKind.f64.format.binade + (m * 2 ^ (52 - m.log2) - FloatKind.f64.format.binade), ?_, ?_⟩
    · have : (K + m.log2 - 52 + 1) * FloatKind.f64.format.binade ≤ 2000 * FloatKind.f64.format.binade := Nat.mul_le_mul_right _ (by omega)
      omega
    · rw [mag_of (by omega), show FloatKind.f64.format.binade + (m * 2 ^ (52 - m.log2) - FloatKind.f64.format.binade) = m * 2 ^ (52 - m.log2) by omega, Nat.mul_assoc, ← Nat.pow_add]
      congr 2; omega

theorem near_whole (s : Bool) {m K : Nat} (hK : K = 1074) (hm : m < 2 ^ 53) : fin .f64 (FloatKind.f64.format.nearest s m 0) ∧ V .f64 (FloatKind.f64.format.nearest s m 0) = m * 2 ^ K ∧ sg .f64 (FloatKind.f64.format.nearest s m 0) = s := by
  obtain ⟨r, hr, e⟩ := rep_nat hK hm
  have : FloatKind.f64.format.nearest s m 0 = FloatKind.f64.format.word s r := by
    refine near_eq _ s (Nat.le_of_lt hr) ?_
    have hL : FloatKind.f64.format.leastPlace = -1074 := rfl
    rw [hL, show ((0 : Int) - -1074).toNat = K by omega, show ((-1074 : Int) - 0).toNat = 0 by omega, e, Nat.pow_zero, Nat.mul_one]
  rw [this]
  obtain ⟨h1, h2, h3⟩ := word_fin (k := .f64) (s := s) hr
  exact ⟨h1, by rw [h2, e], h3⟩

theorem int_part (m a K : Nat) : m * 2 ^ (a - K) / 2 ^ (K - a) = m * 2 ^ a / 2 ^ K := by
  rcases Nat.le_total K a with h | h
  · rw [show K - a = 0 by omega, Nat.pow_zero, Nat.div_one]
    have : m * 2 ^ a = m * 2 ^ (a - K) * 2 ^ K := by rw [Nat.mul_assoc, Nat.pow_sub_mul_pow 2 h]
    rw [this, Nat.mul_div_cancel _ (Nat.two_pow_pos _)]
  · rw [show a - K = 0 by omega, Nat.pow_zero, Nat.mul_one]
    have : 2 ^ K = 2 ^ (K - a) * 2 ^ a := (Nat.pow_sub_mul_pow 2 h).symm
    rw [this, Nat.mul_div_mul_right _ _ (Nat.two_pow_pos _)]

theorem trunc_fin {y K : Nat} (hK : K = 1074) (hf : fin .f64 y) : (FloatKind.f64.decode y).integral .zero = .number (sg .f64 y) (V .f64 y / 2 ^ K) 0 := by
  obtain ⟨m, a, hr, e⟩ := fin_read hf
  show (FloatKind.f64.format.read y).integral .zero = _
  rw [hr]
  have hL : FloatKind.f64.format.leastPlace = -1074 := rfl
  rw [hL, ← e, ← int_part]
  show Datum.number _ (Toward.zero.cut _ (m <<< (-1074 + (a : Int)).toNat) (-(-1074 + (a : Int))).toNat) 0 = _
  rw [zero_cut, Nat.shiftLeft_eq, show (-1074 + (a : Int)).toNat = a - K by omega, show (-(-1074 + (a : Int))).toNat = K - a by omega]

/-- A number less its whole part, said in two ways. -/
theorem frac_same {y K : Nat} (hK : K = 1074) (hy : y < 2 ^ 64) (hf : fin .f64 y) (hV : V .f64 y < 2 ^ K * 2 ^ 52) : ∃ f n t, fin .f64 f ∧ V .f64 f ≤ 2 ^ K ∧
    floatToIntVal .f64 y .i64 = some n ∧ fsub .f64 y (fofInt .f64 n) = f ∧ g_archTrunc y = some t ∧ (feq .f64 t 0 = true → y = f) ∧ (feq .f64 t 0 = false → fsub .f64 y t = f) := by
  have hT := trunc_fin hK hf
  have hpos := Nat.two_pow_pos K
  have hq : V .f64 y / 2 ^ K < 2 ^ 52 := Nat.div_lt_of_lt_mul hV
  have hdm := Nat.div_add_mod (V .f64 y) (2 ^ K)
  have hmod := Nat.mod_lt (V .f64 y) hpos
  have ht : g_archTrunc y = some (FloatKind.f64.format.nearest (sg .f64 y) (V .f64 y / 2 ^ K) 0) := by
    unfold g_archTrunc g_whole fround
    rw [fin_nan hf, hT]; rfl
  have hn : floatToIntVal .f64 y .i64 = some (signed (sg .f64 y) (V .f64 y / 2 ^ K) 0) := by
    have hti : (FloatKind.f64.decode y).toInt .zero = some (signed (sg .f64 y) (V .f64 y / 2 ^ K) 0) := by
      unfold Datum.toInt; rw [hT]
    unfold floatToIntVal
    rw [hti]
    dsimp only
    rw [if_pos]
    rw [signed_eq, Nat.pow_zero, Nat.mul_one]
    have e1 : IntKind.i64.min = -9223372036854775808 := rfl
    have e2 : IntKind.i64.max = 9223372036854775807 := rfl
    rw [e1, e2]
    generalize V .f64 y / 2 ^ K = u at *
    cases sg .f64 y
    · simp; omega
    · simp; omega
  have hfo : fofInt .f64 (signed (sg .f64 y) (V .f64 y / 2 ^ K) 0) = if V .f64 y / 2 ^ K = 0 then 0 else FloatKind.f64.format.nearest (sg .f64 y) (V .f64 y / 2 ^ K) 0 := by
    show FloatKind.f64.format.nearest (decide (signed (sg .f64 y) (V .f64 y / 2 ^ K) 0 < 0)) (signed (sg .f64 y) (V .f64 y / 2 ^ K) 0).natAbs 0 = _
    rw [signed_eq, Nat.pow_zero, Nat.mul_one]
    generalize V .f64 y / 2 ^ K = u at *
    by_cases hu : u = 0
    · subst hu
      rw [if_pos rfl]
      cases sg .f64 y <;> rfl
    · rw [if_neg hu]
      have hu' : 0 < u := by omega
      cases sg .f64 y
      · rw [show decide ((if false = true then -1 else (1 : Int)) * (u : Int) < 0) = false by simp]
        simp
      · rw [show decide ((if true = true then -1 else (1 : Int)) * (u : Int) < 0) = true by simp; omega]
        simp
  obtain ⟨w1, w2, w3⟩ := near_whole (sg .f64 y) hK (m := V .f64 y / 2 ^ K) (by omega)
  have h00 : fin .f64 0 := by unfold fin; decide +kernel
  have hZ0 : Z .f64 0 = 0 := by decide +kernel
  by_cases hu : V .f64 y / 2 ^ K = 0
  · refine ⟨y, _, _, hf, ?_, hn, ?_, ht, fun _ => rfl, fun h => ?_⟩
    · rw [hu, Nat.mul_zero] at hdm; omega
    · rw [hfo, if_pos hu]; exact fsub_zero hy hf
    · exfalso
      rw [feq_fin w1 h00, hZ0, decide_eq_false_iff_not] at h
      apply h
      unfold Z
      rw [w2, hu, Nat.zero_mul]
      split <;> rfl
  · rw [if_neg hu] at hfo
    have hd : (Z .f64 y - Z .f64 (FloatKind.f64.format.nearest (sg .f64 y) (V .f64 y / 2 ^ K) 0)).natAbs ≤ 2 ^ K := by
      unfold Z
      rw [w2, w3, Nat.mul_comm _ (2 ^ K)]
      generalize 2 ^ K * (V .f64 y / 2 ^ K) = u at *
      cases sg .f64 y
      · simp; omega
      · simp; omega
    obtain ⟨M, c, e, h⟩ := fsub_fin hf w1
    obtain ⟨b1, b2⟩ := near_sum (s := if Z .f64 y - Z .f64 (FloatKind.f64.format.nearest (sg .f64 y) (V .f64 y / 2 ^ K) 0) = 0 then sg .f64 y && !sg .f64 (FloatKind.f64.format.nearest (sg .f64 y) (V .f64 y / 2 ^ K) 0) else decide (Z .f64 y - Z .f64 (FloatKind.f64.format.nearest (sg .f64 y) (V .f64 y / 2 ^ K) 0) < 0)) h (by omega) (by omega) hd
    rw [← e] at b1 b2
    refine ⟨_, _, _, b1, b2, hn, by rw [hfo], ht, fun h => ?_, fun _ => rfl⟩
    exfalso
    rw [feq_fin w1 h00, hZ0, decide_eq_true_eq] at h
    have h5 := Z_abs (k := .f64) (x := FloatKind.f64.format.nearest (sg .f64 y) (V .f64 y / 2 ^ K) 0)
    rw [h, w2] at h5
    have := Nat.mul_pos (Nat.pos_of_ne_zero hu) hpos
    simp at h5
    omega
end Go.Fw
/- Plain facts for printed texts: what an optional value comes to; loops with invariants; conditions as propositions. No condition. -/
namespace Go.Fw

/-- It comes to a value with the property. -/
def Ret {α : Type} (x : Option α) (Q : α → Prop) : Prop := ∃ y, x = some y ∧ Q y

theorem Ret.pure {α : Type} {y : α} {Q : α → Prop} (h : Q y) : Ret (some y) Q := ⟨y, rfl, h⟩
theorem Ret.bind {α β : Type} {x : Option α} {f : α → Option β} {Q : β → Prop} (h : Ret x fun y => Ret (f y) Q) : Ret (Option.bind x f) Q := by
  obtain ⟨y, rfl, z, hz, hq⟩ := h
  exact ⟨z, hz, hq⟩
theorem Ret.cond {α : Type} {c : Bool} {a b : Option α} {Q : α → Prop} (h : c = true → Ret a Q) (h' : c = false → Ret b Q) : Ret (bif c then a else b) Q := by
  cases c
  · exact h' rfl
  · exact h rfl
theorem Ret.ix {α : Type} {i : Int} {n : Nat} {f : Nat → Option α} {Q : α → Prop} (h0 : 0 ≤ i) (h1 : i < n) (h : Ret (f i.toNat) Q) : Ret (Option.bind (ix i n) f) Q := by
  rw [ix_ok h0 h1]; exact h
theorem Ret.mono {α : Type} {x : Option α} {P Q : α → Prop} (h : Ret x P) (hpq : ∀ y, P y → Q y) : Ret x Q := by
  obtain ⟨y, hy, hp⟩ := h
  exact ⟨y, hy, hpq y hp⟩
theorem Ret.iter {D O : Type} {step : (D → Option O) → D → Option O} (P : Nat → D → Prop) (Q : O → Prop)
    (h : ∀ r n d, P n d → (∀ m d', m < n → P m d' → Ret (r d') Q) → Ret (step r d) Q) : ∀ N n d, P n d → n < N → Ret (iter step N d) Q := by
  intro N
  induction N with
  | zero => intro n d _ h0; omega
  | succ N ih =>
    intro n d hp hn
    rw [iter_succ]
    exact h _ n d hp fun m d' hm hp' => ih m d' hp' (by omega)

/-- Both come to values that belong together. -/
def Ret2 {α β : Type} (x : Option α) (x' : Option β) (Q : α → β → Prop) : Prop := ∃ y y', x = some y ∧ x' = some y' ∧ Q y y'

theorem Ret2.pure {α β : Type} {y : α} {y' : β} {Q : α → β → Prop} (h : Q y y') : Ret2 (some y) (some y') Q := ⟨y, y', rfl, rfl, h⟩
theorem Ret2.cond {α β : Type} {c c' : Bool} {a b : Option α} {a' b' : Option β} {Q : α → β → Prop} (hc : c = c') (h : c = true → Ret2 a a' Q) (h' : c = false → Ret2 b b' Q) : Ret2 (bif c then a else b) (bif c' then a' else b') Q := by
  subst hc
  cases c
  · exact h' rfl
  · exact h rfl
theorem Ret2.mono {α β : Type} {x : Option α} {x' : Option β} {P Q : α → β → Prop} (h : Ret2 x x' P) (hpq : ∀ y y', P y y' → Q y y') : Ret2 x x' Q := by
  obtain ⟨y, y', hy, hy', hp⟩ := h
  exact ⟨y, y', hy, hy', hpq y y' hp⟩
theorem Ret2.iter {D O D' O' : Type} {step : (D → Option O) → D → Option O} {step' : (D' → Option O') → D' → Option O'} (P : Nat → D → D' → Prop) (Q : O → O' → Prop)
    (h : ∀ r r' n d e, P n d e → (∀ m d' e', m < n → P m d' e' → Ret2 (r d') (r' e') Q) → Ret2 (step r d) (step' r' e) Q) : ∀ N n d e, P n d e → n < N → Ret2 (iter step N d) (iter step' N e) Q := by
  intro N
  induction N with
  | zero => intro n d e _ h0; omega
  | succ N ih =>
    intro n d e hp hn
    rw [iter_succ, iter_succ]
    exact h _ _ n d e hp fun m d' e' hm hp' => ih m d' e' hp' (by omega)

/-- Both come to the same value, which has the property. -/
def Same {α : Type} (x x' : Option α) (Q : α → Prop) : Prop := ∃ y, x = some y ∧ x' = some y ∧ Q y
theorem Same.of {α : Type} {x x' : Option α} {Q : α → Prop} (h : x = x') (hr : Ret x Q) : Same x x' Q := by
  obtain ⟨y, hy, hq⟩ := hr
  exact ⟨y, hy, h ▸ hy, hq⟩
theorem Same.ret {α : Type} {x x' : Option α} {Q : α → Prop} (h : Same x x' Q) : Ret x Q := by
  obtain ⟨y, hy, _, hq⟩ := h
  exact ⟨y, hy, hq⟩
theorem Same.eq {α : Type} {x x' : Option α} {Q : α → Prop} (h : Same x x' Q) : x = x' := by
  obtain ⟨y, hy, hy', hq⟩ := h
  rw [hy, hy']
theorem Same.two {α : Type} {x x' : Option α} {Q : α → Prop} (h : Same x x' Q) : Ret2 x x' fun y y' => y = y' ∧ Q y := by
  obtain ⟨y, hy, hy', hq⟩ := h
  exact ⟨y, y, hy, hy', rfl, hq⟩
theorem Ret2.same {α : Type} {x x' : Option α} {Q : α → Prop} (h : Ret2 x x' fun y y' => y = y' ∧ Q y) : Same x x' Q := by
  obtain ⟨y, _, hy, hy', rfl, hq⟩ := h
  exact ⟨y, hy, hy', hq⟩
theorem Same.pure {α : Type} {y : α} {Q : α → Prop} (h : Q y) : Same (some y) (some y) Q := ⟨y, rfl, rfl, h⟩

/-! ### conditions as propositions -/
/-! ### loops that look at one element after another -/
end Go.Fw
