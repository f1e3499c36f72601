/- The abstract interpreter, its soundness, and plain facts: part 5. No condition. -/
import Derived.Test.YtalhiopcegnobaaFwD
/- Floating point numbers: the order turned round; how great a result can be; what can be narrowed. No condition. -/
namespace Go.Fw
open Ieee

/-! ### how great a number can be -/
/-- A number of at most P binary places before the point, or a not-a-number. -/
def dB (P : Int) : Datum → Prop
  | .number _ m e => m = 0 ∨ e + m.log2 ≤ P
  | .infinity _ => False
  | .nan _ _ => True

theorem cut_le {fb m drop : Nat} (s : Bool) (hd : m.log2 ≤ fb + drop) : Toward.even.cut s m drop ≤ 2 * 2 ^ fb := by
  unfold Toward.cut
  have hm : m < 2 ^ (m.log2 + 1) := Nat.lt_log2_self
  have h1 : m / 1 <<< min drop (m.log2 + 2) ≤ 2 * 2 ^ fb - 1 := by
    rw [Nat.one_shiftLeft]
    have hpos := Nat.two_pow_pos fb
    have : m / 2 ^ min drop (m.log2 + 2) < 2 * 2 ^ fb := by
      refine Nat.div_lt_of_lt_mul ?_
      rw [show 2 * 2 ^ fb = 2 ^ (fb + 1) by rw [Nat.pow_succ]; omega, ← Nat.pow_add]
      exact Nat.lt_of_lt_of_le hm (Nat.pow_le_pow_right (by omega) (by omega))
    omega
  have h2 : ∀ b : Bool, b.toNat ≤ 1 := fun b => by cases b <;> simp
  have h3 := Nat.two_pow_pos fb
  dsimp only
  have := h2 (decide (1 <<< min drop (m.log2 + 2) < 2 * (m % 1 <<< min drop (m.log2 + 2))) || (1 <<< min drop (m.log2 + 2) == 2 * (m % 1 <<< min drop (m.log2 + 2)) && m / 1 <<< min drop (m.log2 + 2) % 2 == 1))
  omega

theorem near_rung (f : Format) (s : Bool) {m : Nat} {e P : Int} {q : Nat} (hm : m ≠ 0) (hP : e + m.log2 ≤ P) (hq : max (P - f.fractionBits) f.leastPlace - f.leastPlace ≤ q) :
    ∃ r, f.nearest s m e = f.word s (min r f.infRung) ∧ r ≤ q * f.binade + 2 * f.binade := by
  unfold Format.nearest
  rw [if_neg hm]
  refine ⟨_, rfl, ?_⟩
  generalize hl : max (e + (m.log2 : Int) - f.fractionBits) f.leastPlace = last
  have h1 : (last - f.leastPlace).toNat ≤ q := by omega
  refine Nat.add_le_add (Nat.mul_le_mul_right _ h1) ?_
  show _ ≤ 2 * 2 ^ f.fractionBits
  by_cases hd : last ≤ e
  · rw [show (last - e).toNat = 0 by omega, cut_zero, Nat.shiftLeft_eq]
    have h7 : m < 2 ^ (m.log2 + 1) := Nat.lt_log2_self
    have h8 : m * 2 ^ (e - last).toNat < 2 ^ (m.log2 + 1) * 2 ^ (e - last).toNat := Nat.mul_lt_mul_of_pos_right h7 (Nat.two_pow_pos _)
    rw [← Nat.pow_add] at h8
    have h9 : 2 ^ (m.log2 + 1 + (e - last).toNat) ≤ 2 ^ (f.fractionBits + 1) := Nat.pow_le_pow_right (by omega) (by omega)
    rw [Nat.pow_succ 2 f.fractionBits] at h9
    omega
  · rw [show (e - last).toNat = 0 by omega]
    exact cut_le s (by simp only [Nat.shiftLeft_zero]; omega)

theorem word_mod' (f : Format) (s : Bool) {r : Nat} (h : r < f.signWeight) : f.word s r % f.signWeight = r := word_mod f s h

/-- What can be narrowed. -/
theorem narrow_ok {x : Nat} (h : dB 126 (FloatKind.f64.format.read x)) : ∃ r, fconv .f64 .f32 x = some r := by
  unfold fconv
  cases hx : isNan .f64 x
  · unfold floatToFloatBits
    rw [cond_f, if_neg (by decide)]
    change dB 126 (FloatKind.f64.decode x) at h
    cases hr : FloatKind.f64.decode x with
    | infinity s => exact ⟨_, rfl⟩
    | nan s t =>
      have : isNan .f64 x = true := by unfold isNan; rw [hr]; rfl
      rw [hx] at this; cases this
    | number s m e =>
      rw [hr] at h
      have hI : FloatKind.f32.format.infRung = 255 * FloatKind.f32.format.binade := rfl
      have hB : 0 < FloatKind.f32.format.binade := Nat.two_pow_pos _
      have e1 : FloatKind.f32.format.fractionBits = 23 := rfl
      have e2 : FloatKind.f32.format.leastPlace = -149 := rfl
      have hs := FloatKind.f32.format.infRung_lt
      have key : (FloatKind.f32.format.read (FloatKind.f32.format.nearest s m e)).isInfinity = false := by
        generalize FloatKind.f32.format = fm at *
        have fin : ∀ g, g < fm.infRung → (fm.read (fm.word s g)).isInfinity = false := fun g hg => by
          obtain ⟨m', e', hr', _⟩ := read_fin fm (fm.word s g) (by rw [word_mod fm s (by omega)]; exact hg)
          rw [hr']; rfl
        by_cases hm : m = 0
        · unfold Format.nearest
          rw [if_pos hm]
          exact fin 0 (by omega)
        · have hP : e + m.log2 ≤ 126 := h.elim (fun h => absurd h hm) fun h => h
          obtain ⟨r, hr, hle⟩ := near_rung fm s hm hP (q := 252) (by rw [e1, e2]; omega)
          have hlt : r < fm.infRung := by omega
          rw [hr, show min r fm.infRung = r by omega]
          exact fin r hlt
      have key' : (FloatKind.f32.decode (FloatKind.f32.encode (.number s m e))).isInfinity = false := key
      refine ⟨FloatKind.f32.encode (.number s m e), ?_⟩
      simp only [key', Bool.false_eq_true, if_false]
  · exact ⟨_, rfl⟩

/-- Canonical words. -/
def okF (k : FloatKind) (x : Nat) : Prop := x < 2 ^ k.format.width ∧ canon k x = x
theorem okF.lt {k : FloatKind} {x : Nat} (h : okF k x) : x < 2 ^ k.format.width := h.1
theorem okF.lt32 {x : Nat} (h : okF .f32 x) : x < 2 ^ 32 := h.1
theorem okF.canon {k : FloatKind} {x : Nat} (h : okF k x) : Fw.canon k x = x := h.2
theorem okF.nan {k : FloatKind} {x : Nat} (h : okF k x) (hn : isNan k x = true) : x = qnan k := by rw [← h.canon, canon_nan hn]
theorem okF.of_num {k : FloatKind} {x : Nat} (h : x < 2 ^ k.format.width) (hn : isNan k x = false) : okF k x := ⟨h, canon_num hn⟩
theorem okF_qnan (k : FloatKind) : okF k (qnan k) := ⟨qnan_lt k, by rw [canon_nan (isNan_qnan k)]⟩

theorem map_write_lt (k : FloatKind) {o : Option Datum} {r : Nat} (h : o.map k.format.write = some r) : r < 2 ^ k.format.width := by
  cases o with
  | none => cases h
  | some d => cases h; exact k.format.write_lt d
theorem floatBits_lt {op : BinOp} {k : FloatKind} {x y r : Nat} (h : floatBits op k x y = some r) : r < 2 ^ k.format.width := by
  unfold floatBits at h
  split at h
  · exact map_write_lt k h
  · exact map_write_lt k h
  · exact map_write_lt k h
  · exact map_write_lt k h
  · cases h
theorem fop_okF (op : BinOp) (k : FloatKind) (x y : Nat) : okF k (fop op k x y) := by
  unfold fop
  cases h : floatBits op k x y with
  | none => exact okF_qnan k
  | some r => exact .of_num (floatBits_lt h) (floatBits_not_nan h)
theorem fadd_okF (k : FloatKind) (x y : Nat) : okF k (fadd k x y) := fop_okF _ _ _ _
theorem fmul_okF (k : FloatKind) (x y : Nat) : okF k (fmul k x y) := fop_okF _ _ _ _
theorem fdiv_okF (k : FloatKind) (x y : Nat) : okF k (fdiv k x y) := fop_okF _ _ _ _
theorem fneg_okF (k : FloatKind) {x : Nat} (h : okF k x) : okF k (fneg k x) := by
  unfold fneg
  refine ⟨?_, canon_canon _ _⟩
  unfold Fw.canon
  cases isNan k (Op.negFloat k x)
  · exact neg_lt k h.1
  · exact qnan_lt k
theorem fconv_okF {s d : FloatKind} {x r : Nat} (hx : x < 2 ^ s.format.width) (h : fconv s d x = some r) : okF d r := by
  unfold fconv at h
  cases hn : isNan s x
  · rw [hn, cond_f] at h
    exact ⟨(floatToFloatBits_rel hx hn h).1, (floatToFloatBits_rel hx hn h).2⟩
  · rw [hn, cond_t] at h
    cases h; exact okF_qnan d
theorem fwide_okF {x : Nat} (hx : x < 2 ^ 32) : okF .f64 (fwide x) := fconv_okF (s := .f32) hx (fconv_wide hx)
theorem fop_nan {op : BinOp} {k : FloatKind} {x y : Nat} (h : isNan k x = true) : fop op k x y = qnan k := by
  unfold fop; rw [floatBits_nan_left h]; rfl
theorem feq_nan {k : FloatKind} {x y : Nat} (h : isNan k x = true) : feq k x y = false := by
  unfold feq; rw [order_nan_left h]; rfl
end Go.Fw
/- Floating point numbers: what is widened and narrowed again is the same. No condition. -/
namespace Go.Fw
open Ieee

theorem fwide_num {x m : Nat} {s : Bool} {e : Int} (hx : x < 2 ^ 32) (hn : isNan .f32 x = false) (hr : FloatKind.f32.format.read x = .number s m e) : fwide x = FloatKind.f64.format.nearest s m e := by
  have hw := fconv_wide hx
  unfold fconv floatToFloatBits at hw
  rw [hn, cond_f, if_neg (by decide), show FloatKind.f32.decode x = .number s m e from hr] at hw
  dsimp only at hw
  split at hw
  · cases hw
  · exact (Option.some.inj hw).symm

theorem fwide_nan {x : Nat} (hx : x < 2 ^ 32) (hn : isNan .f32 x = true) : fwide x = qnan .f64 := by
  have hw := fconv_wide hx
  unfold fconv at hw
  rw [hn, cond_t] at hw
  exact (Option.some.inj hw).symm

/-- A number that is not 0 is read out of its widened word, its digits moved to the top. -/
theorem wide_read {x m : Nat} {s : Bool} {e : Int} (hx : x < 2 ^ 32) (hn : isNan .f32 x = false) (hr : FloatKind.f32.format.read x = .number s m e) (hm0 : m ≠ 0) (hm : m < 2 ^ 24) (he1 : -149 ≤ e) (he2 : e ≤ 104) :
    FloatKind.f64.format.read (fwide x) = .number s (m * 2 ^ (52 - m.log2)) (e + m.log2 - 52) := by
  rw [fwide_num hx hn hr]
  obtain ⟨g, h1, h2, h3, h4, h5⟩ := near64_read s hm0 hm he1 he2
  rw [h1]
  have hgs := Nat.lt_trans h3 FloatKind.f64.format.infRung_lt
  obtain ⟨p1, p2⟩ := word_parts .f64 s hgs
  rcases read_cases FloatKind.f64.format (FloatKind.f64.format.word s g) with ⟨q1, q2⟩ | ⟨q1, q3, q2⟩ | ⟨q1, q2⟩ | ⟨q1, t, q2⟩
  · rw [p2] at q1; omega
  · rw [q2, p2, p1, h4]
    have e2 : FloatKind.f64.format.leastPlace = -1074 := rfl
    rw [e2, h5]
    have : (s.toNat % 2 == 1) = s := by cases s <;> rfl
    rw [this]
    congr 1
    omega
  · rw [p2] at q1; omega
  · rw [p2] at q1; omega

theorem narrow_num {y : Nat} {s : Bool} {M : Nat} {E : Int} (hr : FloatKind.f64.format.read y = .number s M E) {r : Nat} (hw : FloatKind.f32.format.nearest s M E = r) (hi : r % FloatKind.f32.format.signWeight < FloatKind.f32.format.infRung) : fconv .f64 .f32 y = some r := by
  have hn : isNan .f64 y = false := by
    show (FloatKind.f64.format.read y).isNaN = false
    rw [hr]; rfl
  unfold fconv floatToFloatBits
  rw [hn, cond_f, if_neg (by decide), show FloatKind.f64.decode y = .number s M E from hr]
  have key : (FloatKind.f32.decode (FloatKind.f32.encode (.number s M E))).isInfinity = false := by
    show (FloatKind.f32.format.read (FloatKind.f32.format.nearest s M E)).isInfinity = false
    rw [hw]
    obtain ⟨m', e', hr', _⟩ := read_fin FloatKind.f32.format r hi
    rw [hr']; rfl
  simp only [key, Bool.false_eq_true, if_false]
  exact congrArg some hw

theorem near_sign (f : Format) (m : Nat) (e : Int) : ∃ g, g ≤ f.infRung ∧ ∀ s, f.nearest s m e = f.word s g := by
  by_cases h : m = 0
  · exact ⟨0, Nat.zero_le _, fun s => by unfold Format.nearest; rw [if_pos h]⟩
  · refine ⟨min ((max (e + (m.log2 : Int) - f.fractionBits) f.leastPlace - f.leastPlace).toNat * f.binade + Toward.even.cut false (m <<< (e - max (e + (m.log2 : Int) - f.fractionBits) f.leastPlace).toNat) (max (e + (m.log2 : Int) - f.fractionBits) f.leastPlace - e).toNat) f.infRung, Nat.min_le_right _ _, fun s => ?_⟩
    unfold Format.nearest
    rw [if_neg h]
    rfl

end Go.Fw
/- Floating point numbers as whole numbers of the least place: rounding keeps the order. No condition. -/
namespace Go.Fw
open Ieee

theorem scale {a b i j i' j' : Nat} (h : a * 2 ^ i ≤ b * 2 ^ j) (hij : i + j' = i' + j) : a * 2 ^ i' ≤ b * 2 ^ j' := by
  rcases Nat.le_total i' i with hl | hl
  · obtain ⟨c, rfl⟩ := Nat.exists_eq_add_of_le hl
    obtain rfl : j = j' + c := by omega
    rw [Nat.pow_add, Nat.pow_add, ← Nat.mul_assoc, ← Nat.mul_assoc] at h
    exact Nat.le_of_mul_le_mul_right h (Nat.two_pow_pos c)
  · obtain ⟨c, rfl⟩ := Nat.exists_eq_add_of_le hl
    obtain rfl : j' = j + c := by omega
    rw [Nat.pow_add, Nat.pow_add, ← Nat.mul_assoc, ← Nat.mul_assoc]
    exact Nat.mul_le_mul_right _ h

theorem cut_pow (n d : Nat) : (d ≤ n.log2 + 2 ∧ 1 <<< min d (n.log2 + 2) = 2 ^ d) ∨ (n.log2 + 2 < d ∧ 1 <<< min d (n.log2 + 2) = 2 ^ (n.log2 + 2) ∧ 2 * n < 2 ^ (n.log2 + 2) ∧ n < 2 ^ d) := by
  rw [Nat.one_shiftLeft]
  rcases Nat.lt_or_ge (n.log2 + 2) d with hd | hd
  · have h1 : n < 2 ^ (n.log2 + 1) := Nat.lt_log2_self
    have h2 : 2 ^ (n.log2 + 2) = 2 ^ (n.log2 + 1) * 2 := Nat.pow_succ ..
    have h3 : 2 ^ (n.log2 + 2) ≤ 2 ^ d := Nat.pow_le_pow_right (by omega) (by omega)
    exact .inr ⟨hd, by rw [Nat.min_eq_right (by omega)], by omega, by omega⟩
  · exact .inl ⟨hd, by rw [Nat.min_eq_left hd]⟩

theorem cut_up (s : Bool) {n d N : Nat} (h : n ≤ N * 2 ^ d) : Toward.even.cut s n d ≤ N := by
  unfold Toward.cut
  dsimp only
  rcases cut_pow n d with ⟨_, e⟩ | ⟨_, e, h1, _⟩
  · rw [e]
    have hp := Nat.two_pow_pos d
    have h2 := Nat.div_add_mod n (2 ^ d)
    have h3 : ∀ b : Bool, b.toNat ≤ 1 := fun b => by cases b <;> simp
    by_cases h0 : n % 2 ^ d = 0
    · rw [h0]
      have : n / 2 ^ d ≤ N := Nat.div_le_of_le_mul (by rw [Nat.mul_comm]; exact h)
      have a1 : decide (2 ^ d < 2 * 0) = false := by simp
      have a2 : (2 ^ d == 2 * 0) = false := by rw [beq_eq_false_iff_ne]; omega
      rw [a1, a2]
      simpa using this
    · have : n / 2 ^ d < N := by
        refine Nat.div_lt_of_lt_mul ?_
        rw [Nat.mul_comm]
        rcases Nat.lt_or_ge n (N * 2 ^ d) with h4 | h4
        · exact h4
        · exfalso
          have : n = N * 2 ^ d := by omega
          rw [this, Nat.mul_mod_left] at h0
          exact h0 rfl
      have := h3 (decide (2 ^ d < 2 * (n % 2 ^ d)) || (2 ^ d == 2 * (n % 2 ^ d) && n / 2 ^ d % 2 == 1))
      omega
  · rw [e, Nat.div_eq_of_lt (by omega), Nat.mod_eq_of_lt (by omega)]
    have a1 : decide (2 ^ (n.log2 + 2) < 2 * n) = false := by simp; omega
    have a2 : (2 ^ (n.log2 + 2) == 2 * n) = false := by rw [beq_eq_false_iff_ne]; omega
    rw [a1, a2]
    simp

theorem cut_low (s : Bool) {n d N : Nat} (h : N * 2 ^ d ≤ n) : N ≤ Toward.even.cut s n d := by
  unfold Toward.cut
  dsimp only
  rcases cut_pow n d with ⟨_, e⟩ | ⟨_, e, h1, h2⟩
  · rw [e]
    have : N ≤ n / 2 ^ d := (Nat.le_div_iff_mul_le (Nat.two_pow_pos d)).2 h
    omega
  · have : N = 0 := by
      rcases Nat.eq_zero_or_pos N with h0 | h0
      · exact h0
      · have : 1 * 2 ^ d ≤ N * 2 ^ d := Nat.mul_le_mul_right _ h0
        omega
    rw [this]; exact Nat.zero_le _

theorem zero_cut (s : Bool) (n d : Nat) : Toward.zero.cut s n d = n / 2 ^ d := by
  unfold Toward.cut
  dsimp only
  rcases cut_pow n d with ⟨_, e⟩ | ⟨_, e, h1, h2⟩
  · rw [e]; simp
  · rw [e, Nat.div_eq_of_lt (by omega), Nat.div_eq_of_lt h2]; simp

/-- Where a number is written. -/
theorem near_parts (f : Format) (s : Bool) {m : Nat} (e : Int) (hm : m ≠ 0) :
    ∃ p kept : Nat, f.nearest s m e = f.word s (min (p * f.binade + kept) f.infRung) ∧ (e + m.log2 ≤ f.leastPlace + p + f.fractionBits) ∧ (1 ≤ p → f.leastPlace + p = e + m.log2 - f.fractionBits) ∧
      kept = Toward.even.cut s (m <<< (e - (f.leastPlace + p)).toNat) (f.leastPlace + p - e).toNat := by
  unfold Format.nearest
  rw [if_neg hm]
  refine ⟨(max (e + (m.log2 : Int) - f.fractionBits) f.leastPlace - f.leastPlace).toNat, _, rfl, ?_, ?_, ?_⟩
  · omega
  · omega
  · have : f.leastPlace + ((max (e + (m.log2 : Int) - f.fractionBits) f.leastPlace - f.leastPlace).toNat : Int) = max (e + (m.log2 : Int) - f.fractionBits) f.leastPlace := by omega
    rw [this]

theorem kept_le (f : Format) (s : Bool) {m : Nat} {e : Int} {p : Nat} (h : e + m.log2 ≤ f.leastPlace + p + f.fractionBits) :
    Toward.even.cut s (m <<< (e - (f.leastPlace + p)).toNat) (f.leastPlace + p - e).toNat ≤ 2 * f.binade := by
  have h7 : m < 2 ^ (m.log2 + 1) := Nat.lt_log2_self
  refine cut_up s ?_
  rw [Nat.shiftLeft_eq]
  refine Nat.le_trans (Nat.le_of_lt (Nat.mul_lt_mul_of_pos_right h7 (Nat.two_pow_pos _))) ?_
  rw [show 2 * f.binade = 2 ^ (f.fractionBits + 1) by unfold Format.binade; rw [Nat.pow_succ]; omega, ← Nat.pow_add, ← Nat.pow_add]
  exact Nat.pow_le_pow_right (by omega) (by omega)

theorem kept_ge (f : Format) (s : Bool) {m : Nat} {e : Int} {p : Nat} (hm : m ≠ 0) (h : f.leastPlace + p = e + m.log2 - f.fractionBits) :
    f.binade ≤ Toward.even.cut s (m <<< (e - (f.leastPlace + p)).toNat) (f.leastPlace + p - e).toNat := by
  refine cut_low s ?_
  rw [Nat.shiftLeft_eq]
  refine Nat.le_trans ?_ (Nat.mul_le_mul_right _ (Nat.log2_self_le hm))
  unfold Format.binade
  rw [← Nat.pow_add, ← Nat.pow_add]
  exact Nat.pow_le_pow_right (by omega) (by omega)

theorem mag_parts {B r : Nat} (hB : 0 < B) (h : B ≤ r) : ∃ q t, t < B ∧ r = (q + 1) * B + t ∧ mag B r = (B + t) * 2 ^ q := by
  have hd : 1 ≤ r / B := (Nat.le_div_iff_mul_le hB).2 (by omega)
  refine ⟨r / B - 1, r % B, Nat.mod_lt r hB, ?_, by unfold mag; rw [if_neg (by omega)]⟩
  rw [show r / B - 1 + 1 = r / B by omega, Nat.mul_comm]
  exact (Nat.div_add_mod r B).symm

theorem near_le (f : Format) (s : Bool) {m : Nat} {e : Int} {r : Nat} (h : m * 2 ^ (e - f.leastPlace).toNat ≤ mag f.binade r * 2 ^ (f.leastPlace - e).toNat) : ∃ g, f.nearest s m e = f.word s g ∧ g ≤ r ∧ g ≤ f.infRung := by
  by_cases hm : m = 0
  · subst hm
    exact ⟨0, by unfold Format.nearest; rw [if_pos rfl], by omega, by omega⟩
  obtain ⟨p, kept, hn, h1, h2, hk⟩ := near_parts f s e hm
  refine ⟨_, hn, Nat.le_trans (Nat.min_le_left ..) ?_, Nat.min_le_right ..⟩
  have hB : 0 < f.binade := Nat.two_pow_pos _
  have hBe : f.binade = 2 ^ f.fractionBits := rfl
  have hlog : 2 ^ m.log2 ≤ m := Nat.log2_self_le hm
  -- the number reaches 2 to the power of its logarithm
  have low : ∀ c : Nat, mag f.binade r < 2 ^ c → e + m.log2 < f.leastPlace + c := fun c hc => by
    have h3 : 2 ^ m.log2 * 2 ^ (e - f.leastPlace).toNat < 2 ^ c * 2 ^ (f.leastPlace - e).toNat :=
      Nat.lt_of_le_of_lt (Nat.le_trans (Nat.mul_le_mul_right _ hlog) h) (Nat.mul_lt_mul_of_pos_right hc (Nat.two_pow_pos _))
    rw [← Nat.pow_add, ← Nat.pow_add] at h3
    have := (Nat.pow_lt_pow_iff_right (by omega)).1 h3
    omega
  by_cases hr : r < f.binade
  · have hmag : mag f.binade r = r := by unfold mag; rw [if_pos hr]
    rw [hmag] at h low
    have := low f.fractionBits (by rw [← hBe]; exact hr)
    have hp : p = 0 := by
      rcases Nat.eq_zero_or_pos p with h0 | h0
      · exact h0
      · have := h2 h0; omega
    subst hp
    rw [hk, Nat.zero_mul, Nat.zero_add]
    refine cut_up s ?_
    rw [Nat.shiftLeft_eq]
    exact scale h (by omega)
  · obtain ⟨q, t, ht, rfl, hmag⟩ := mag_parts hB (Nat.le_of_not_lt hr)
    rw [hmag] at h low
    have h3 := low (f.fractionBits + q + 1) (by
      rw [show f.fractionBits + q + 1 = f.fractionBits + 1 + q by omega, Nat.pow_add, Nat.pow_succ, ← hBe]
      exact Nat.mul_lt_mul_of_pos_right (by omega) (Nat.two_pow_pos _))
    have hpq : p ≤ q := by
      rcases Nat.eq_zero_or_pos p with h0 | h0
      · omega
      · have := h2 h0; omega
    rcases Nat.lt_or_ge p q with hlt | hge
    · have := kept_le f s h1
      rw [← hk] at this
      have h4 : p * f.binade + f.binade ≤ q * f.binade := by rw [← Nat.succ_mul]; exact Nat.mul_le_mul_right _ hlt
      rw [Nat.succ_mul]
      omega
    · have hp : p = q := by omega
      subst hp
      have : kept ≤ f.binade + t := by
        rw [hk]
        refine cut_up s ?_
        rw [Nat.shiftLeft_eq]
        rw [Nat.mul_assoc, ← Nat.pow_add] at h
        exact scale h (by omega)
      rw [Nat.succ_mul]
      omega

theorem near_ge (f : Format) (s : Bool) {m : Nat} {e : Int} {r : Nat} (hi : r ≤ f.infRung) (h : mag f.binade r * 2 ^ (f.leastPlace - e).toNat ≤ m * 2 ^ (e - f.leastPlace).toNat) : ∃ g, f.nearest s m e = f.word s g ∧ r ≤ g := by
  by_cases hm : m = 0
  · subst hm
    refine ⟨0, by unfold Format.nearest; rw [if_pos rfl], ?_⟩
    rw [Nat.zero_mul] at h
    have hp := Nat.two_pow_pos (f.leastPlace - e).toNat
    have h0 : mag f.binade r = 0 := by
      rcases Nat.eq_zero_or_pos (mag f.binade r) with h0 | h0
      · exact h0
      · have := Nat.mul_le_mul h0 hp; omega
    have hB : 0 < f.binade := Nat.two_pow_pos _
    by_cases hr : r < f.binade
    · unfold mag at h0; rw [if_pos hr] at h0; omega
    · have := (mag_lt hB (Nat.le_of_not_lt hr)).1
      have := Nat.mul_le_mul hB (Nat.two_pow_pos (r / f.binade - 1))
      omega
  obtain ⟨p, kept, hn, h1, h2, hk⟩ := near_parts f s e hm
  refine ⟨_, hn, Nat.le_min.2 ⟨?_, hi⟩⟩
  have hB : 0 < f.binade := Nat.two_pow_pos _
  have hBe : f.binade = 2 ^ f.fractionBits := rfl
  have hlog : m < 2 ^ (m.log2 + 1) := Nat.lt_log2_self
  have big : 1 ≤ p → f.binade ≤ kept := fun hp => by rw [hk]; exact kept_ge f s hm (h2 hp)
  by_cases hr : r < f.binade
  · rcases Nat.eq_zero_or_pos p with h0 | h0
    · subst h0
      rw [hk, Nat.zero_mul, Nat.zero_add]
      refine cut_low s ?_
      rw [Nat.shiftLeft_eq]
      have hmag : mag f.binade r = r := by unfold mag; rw [if_pos hr]
      rw [hmag] at h
      exact scale h (by omega)
    · have := big h0; omega
  · obtain ⟨q, t, ht, rfl, hmag⟩ := mag_parts hB (Nat.le_of_not_lt hr)
    rw [hmag] at h
    have h3 : f.leastPlace + f.fractionBits + q < e + m.log2 + 1 := by
      have h3 : 2 ^ (f.fractionBits + q) * 2 ^ (f.leastPlace - e).toNat < 2 ^ (m.log2 + 1) * 2 ^ (e - f.leastPlace).toNat := by
        refine Nat.lt_of_le_of_lt (Nat.le_trans (Nat.mul_le_mul_right _ ?_) h) (Nat.mul_lt_mul_of_pos_right hlog (Nat.two_pow_pos _))
        rw [Nat.pow_add, ← hBe]
        exact Nat.mul_le_mul_right _ (by omega)
      rw [← Nat.pow_add, ← Nat.pow_add] at h3
      have := (Nat.pow_lt_pow_iff_right (by omega)).1 h3
      omega
    have hpq : q ≤ p := by omega
    rcases Nat.lt_or_ge q p with hlt | hge
    · have := big (by omega)
      have h4 : q * f.binade + f.binade ≤ p * f.binade := by rw [← Nat.succ_mul]; exact Nat.mul_le_mul_right _ hlt
      rw [Nat.succ_mul]
      omega
    · have hp : p = q := by omega
      subst hp
      have : f.binade + t ≤ kept := by
        rw [hk]
        refine cut_low s ?_
        rw [Nat.shiftLeft_eq]
        rw [Nat.mul_assoc, ← Nat.pow_add] at h
        exact scale h (by omega)
      rw [Nat.succ_mul]
      omega

theorem near_eq (f : Format) (s : Bool) {m : Nat} {e : Int} {r : Nat} (hi : r ≤ f.infRung) (h : m * 2 ^ (e - f.leastPlace).toNat = mag f.binade r * 2 ^ (f.leastPlace - e).toNat) : f.nearest s m e = f.word s r := by
  obtain ⟨g, h1, h2, _⟩ := near_le f s (Nat.le_of_eq h)
  obtain ⟨g', h3, h4⟩ := near_ge f s hi (Nat.le_of_eq h.symm)
  have : g = g' := by
    rw [h1] at h3
    unfold Format.word at h3
    cases s <;> simp at h3 <;> omega
  subst this
  rw [h1, show g = r by omega]

theorem mag_mono {B r s : Nat} (hB : 0 < B) (h : r ≤ s) : mag B r ≤ mag B s := by
  by_cases hr : r < B
  · by_cases hs : s < B
    · unfold mag; rw [if_pos hr, if_pos hs]; exact h
    · obtain ⟨q, t, _, _, e⟩ := mag_parts hB (Nat.le_of_not_lt hs)
      rw [e]
      unfold mag
      rw [if_pos hr]
      have : (B + t) * 1 ≤ (B + t) * 2 ^ q := Nat.mul_le_mul_left _ (Nat.two_pow_pos q)
      omega
  · obtain ⟨q, t, ht, rfl, e⟩ := mag_parts hB (Nat.le_of_not_lt hr)
    obtain ⟨q', t', ht', rfl, e'⟩ := mag_parts hB (Nat.le_trans (Nat.le_of_not_lt hr) h)
    rw [e, e']
    rcases Nat.lt_trichotomy q q' with h1 | h1 | h1
    · have h2 : 2 ^ q * 2 ≤ 2 ^ q' := by rw [← Nat.pow_succ]; exact Nat.pow_le_pow_right (by omega) h1
      calc (B + t) * 2 ^ q ≤ (B * 2) * 2 ^ q := Nat.mul_le_mul_right _ (by omega)
        _ = B * (2 ^ q * 2) := by rw [Nat.mul_assoc, Nat.mul_comm 2]
        _ ≤ (B + t') * 2 ^ q' := Nat.mul_le_mul (by omega) h2
    · subst h1
      exact Nat.mul_le_mul_right _ (by omega)
    · exfalso
      have : (q' + 1 + 1) * B ≤ (q + 1) * B := Nat.mul_le_mul_right _ (by omega)
      rw [Nat.succ_mul (q' + 1)] at this
      omega

/-! ### words as whole numbers of the least place -/
def fin (k : FloatKind) (x : Nat) : Prop := x % k.format.signWeight < k.format.infRung
def V (k : FloatKind) (x : Nat) : Nat := mag k.format.binade (x % k.format.signWeight)
def sg (k : FloatKind) (x : Nat) : Bool := x / k.format.signWeight % 2 == 1
def Z (k : FloatKind) (x : Nat) : Int := if sg k x then -(V k x : Int) else V k x

theorem fin_read {k : FloatKind} {x : Nat} (h : fin k x) : ∃ m a : Nat, k.format.read x = .number (sg k x) m (k.format.leastPlace + a) ∧ m * 2 ^ a = V k x := read_fin k.format x h

theorem word_fin {k : FloatKind} {s : Bool} {g : Nat} (h : g < k.format.infRung) : fin k (k.format.word s g) ∧ V k (k.format.word s g) = mag k.format.binade g ∧ sg k (k.format.word s g) = s := by
  obtain ⟨p1, p2⟩ := word_parts k s (Nat.lt_trans h k.format.infRung_lt)
  refine ⟨by unfold fin; rw [p2]; exact h, by unfold V; rw [p2], ?_⟩
  unfold sg
  rw [p1]
  cases s <;> rfl

theorem fin_nan {k : FloatKind} {x : Nat} (h : fin k x) : isNan k x = false := by
  obtain ⟨m, a, hr, _⟩ := fin_read h
  show (k.format.read x).isNaN = false
  rw [hr]; rfl

/-- A number that is not greater than 2 to the power of c places is written as such a one. -/
theorem near_bnd (s : Bool) {m c : Nat} {e : Int} (h1 : 52 ≤ c) (h2 : c ≤ 2097) (h : m * 2 ^ (e + 1074).toNat ≤ 2 ^ c * 2 ^ (-1074 - e).toNat) :
    fin .f64 (FloatKind.f64.format.nearest s m e) ∧ V .f64 (FloatKind.f64.format.nearest s m e) ≤ 2 ^ c := by
  have hB : FloatKind.f64.format.binade = 2 ^ 52 := rfl
  have hI : FloatKind.f64.format.infRung = 2047 * FloatKind.f64.format.binade := rfl
  have hL : FloatKind.f64.format.leastPlace = -1074 := rfl
  have hBp : 0 < FloatKind.f64.format.binade := Nat.two_pow_pos _
  have hm : mag FloatKind.f64.format.binade ((c - 51) * FloatKind.f64.format.binade) = 2 ^ c := by
    unfold mag
    have : FloatKind.f64.format.binade ≤ (c - 51) * FloatKind.f64.format.binade := Nat.le_mul_of_pos_left _ (by omega)
    rw [if_neg (by omega), Nat.mul_mod_left, Nat.mul_div_cancel _ hBp, hB, Nat.add_zero, ← Nat.pow_add]
    congr 1; omega
  obtain ⟨g, h3, h4, _⟩ := near_le FloatKind.f64.format s (m := m) (e := e) (r := (c - 51) * FloatKind.f64.format.binade) (by
    rw [hL, hm, show e - -1074 = e + 1074 by omega]; exact h)
  have hlt : g < FloatKind.f64.format.infRung := by
    have : (c - 51) * FloatKind.f64.format.binade ≤ 2046 * FloatKind.f64.format.binade := Nat.mul_le_mul_right _ (by omega)
    omega
  rw [h3]
  obtain ⟨w1, w2, _⟩ := word_fin (k := .f64) (s := s) hlt
  exact ⟨w1, by rw [w2, ← hm]; exact mag_mono hBp h4⟩

theorem fmul_bnd {x y p q : Nat} (hx : fin .f64 x) (hy : fin .f64 y) (hp : V .f64 x ≤ 2 ^ p) (hq : V .f64 y ≤ 2 ^ q) (h1 : 1126 ≤ p + q) (h2 : p + q ≤ 3171) : fin .f64 (fmul .f64 x y) ∧ V .f64 (fmul .f64 x y) ≤ 2 ^ (p + q - 1074) := by
  obtain ⟨m, a, hr, e⟩ := fin_read hx
  obtain ⟨n, b, hr', e'⟩ := fin_read hy
  have : fmul .f64 x y = FloatKind.f64.format.nearest (sg .f64 x ^^ sg .f64 y) (m * n) (FloatKind.f64.format.leastPlace + a + (FloatKind.f64.format.leastPlace + b)) := by
    unfold fmul fop floatBits Format.mul
    rw [hr, hr']; rfl
  rw [this]
  have hL : FloatKind.f64.format.leastPlace = -1074 := rfl
  rw [hL]
  refine near_bnd _ (by omega) (by omega) ?_
  have h3 : ∀ K, K ≤ p + q → m * n * 2 ^ (a + b) ≤ 2 ^ (p + q - K) * 2 ^ K := fun K hK => by
    rw [Nat.pow_sub_mul_pow 2 hK, Nat.pow_add 2 p q, Nat.pow_add 2 a b, Nat.mul_mul_mul_comm, e, e']
    exact Nat.mul_le_mul hp hq
  exact scale (h3 1074 (by omega)) (by omega)

theorem cmp_scale (a b : Int) (c : Nat) (hc : 0 < c) : compare (a * c) (b * c) = compare a b := by
  have hc' : (0 : Int) < c := by omega
  rcases Int.lt_trichotomy a b with h | h | h
  · rw [Int.compare_eq_lt.2 h, Int.compare_eq_lt.2 (Int.mul_lt_mul_of_pos_right h hc')]
  · subst h; rw [cmp_self, cmp_self]
  · rw [Int.compare_eq_gt.2 h, Int.compare_eq_gt.2 (Int.mul_lt_mul_of_pos_right h hc')]

/-- A number's signed value at a base not above its place. -/
theorem signed_base (s : Bool) (m : Nat) (L : Int) (a c : Nat) (h : c ≤ a) : signed s m (L + a - (L + c)).toNat * ((2 ^ c : Nat) : Int) = if s then -((m * 2 ^ a : Nat) : Int) else ((m * 2 ^ a : Nat) : Int) := by
  rw [signed_eq, show (L + (a : Int) - (L + c)).toNat = a - c by omega]
  have : m * 2 ^ a = m * 2 ^ (a - c) * 2 ^ c := by rw [Nat.mul_assoc, ← Nat.pow_add, show a - c + c = a by omega]
  rw [this]
  cases s
  · simp
  · simp only [if_true, Int.natCast_mul, Int.neg_mul, Int.one_mul]

theorem order_fin {k : FloatKind} {x y : Nat} (hx : fin k x) (hy : fin k y) : k.format.order x y = some (compare (Z k x) (Z k y)) := by
  obtain ⟨m, a, hr, e⟩ := fin_read hx
  obtain ⟨n, b, hr', e'⟩ := fin_read hy
  unfold Format.order
  rw [hr, hr']
  show some (compare (signed (sg k x) m _) (signed (sg k y) n _)) = _
  have hb : min (k.format.leastPlace + (a : Int)) (k.format.leastPlace + b) = k.format.leastPlace + (min a b : Nat) := by omega
  rw [hb, ← cmp_scale _ _ (2 ^ min a b) (Nat.two_pow_pos _), signed_base _ _ _ _ _ (Nat.min_le_left a b), signed_base _ _ _ _ _ (Nat.min_le_right a b), e, e']
  rfl

/-- What a sum is before it is rounded. -/
theorem sum_fin {k : FloatKind} {x y : Nat} (t : Bool) (hx : fin k x) (hy : fin k y) (z : Int) (hz : z = Z k x + (if t then -Z k y else Z k y)) :
    ∃ (M : Nat) (c : Nat), (k.format.read x).sum (if t then (k.format.read y).opposite else k.format.read y) = some (.number (if z = 0 then sg k x && (t ^^ sg k y) else decide (z < 0)) M (k.format.leastPlace + c)) ∧ M * 2 ^ c = z.natAbs := by
  obtain ⟨m, a, hr, e⟩ := fin_read hx
  obtain ⟨n, b, hr', e'⟩ := fin_read hy
  have ho : (if t then (k.format.read y).opposite else k.format.read y) = .number (t ^^ sg k y) n (k.format.leastPlace + b) := by
    rw [hr']; cases t <;> simp [Datum.opposite]
  rw [ho, hr]
  have hb : min (k.format.leastPlace + (a : Int)) (k.format.leastPlace + b) = k.format.leastPlace + (min a b : Nat) := by omega
  have hs1 := signed_base (sg k x) m k.format.leastPlace a (min a b) (Nat.min_le_left a b)
  have hs2 := signed_base (t ^^ sg k y) n k.format.leastPlace b (min a b) (Nat.min_le_right a b)
  rw [e] at hs1
  rw [e'] at hs2
  have hz1 : (signed (sg k x) m (k.format.leastPlace + a - (k.format.leastPlace + (min a b : Nat))).toNat + signed (t ^^ sg k y) n (k.format.leastPlace + b - (k.format.leastPlace + (min a b : Nat))).toNat) * ((2 ^ min a b : Nat) : Int) = z := by
    rw [Int.add_mul, hs1, hs2, hz]
    unfold Z
    cases t <;> cases sg k y <;> simp
  refine ⟨(signed (sg k x) m (k.format.leastPlace + a - (k.format.leastPlace + (min a b : Nat))).toNat + signed (t ^^ sg k y) n (k.format.leastPlace + b - (k.format.leastPlace + (min a b : Nat))).toNat).natAbs, min a b, ?_, ?_⟩
  · simp only [Datum.sum, hb]
    generalize signed (sg k x) m _ + signed (t ^^ sg k y) n _ = w at *
    have hpos : (0 : Int) < ((2 ^ min a b : Nat) : Int) := by have := Nat.two_pow_pos (min a b); omega
    have h0 : w = 0 ↔ z = 0 := by
      rw [← hz1]
      constructor
      · intro h; rw [h, Int.zero_mul]
      · intro h; rcases Int.mul_eq_zero.1 h with h | h
        · exact h
        · omega
    have hlt : w < 0 ↔ z < 0 := by
      rw [← hz1]
      constructor
      · intro h; exact Int.mul_neg_of_neg_of_pos h hpos
      · intro h
        rcases Int.lt_or_le w 0 with h1 | h1
        · exact h1
        · have := Int.mul_nonneg h1 (Int.le_of_lt hpos); omega
    simp only [h0, hlt]
  · generalize signed (sg k x) m _ + signed (t ^^ sg k y) n _ = w at *
    rw [← hz1, Int.natAbs_mul, Int.natAbs_natCast]

theorem fadd_fin {k : FloatKind} {x y : Nat} (hx : fin k x) (hy : fin k y) : ∃ (M : Nat) (c : Nat), fadd k x y = k.format.nearest (if Z k x + Z k y = 0 then sg k x && sg k y else decide (Z k x + Z k y < 0)) M (k.format.leastPlace + c) ∧ M * 2 ^ c = (Z k x + Z k y).natAbs := by
  obtain ⟨M, c, h1, h2⟩ := sum_fin false hx hy (Z k x + Z k y) (by simp)
  refine ⟨M, c, ?_, h2⟩
  simp only [Bool.false_eq_true, if_false, Bool.false_xor] at h1
  unfold fadd fop floatBits Format.add
  simp only [h1]; rfl

theorem fsub_fin {k : FloatKind} {x y : Nat} (hx : fin k x) (hy : fin k y) : ∃ (M : Nat) (c : Nat), fsub k x y = k.format.nearest (if Z k x - Z k y = 0 then sg k x && !sg k y else decide (Z k x - Z k y < 0)) M (k.format.leastPlace + c) ∧ M * 2 ^ c = (Z k x - Z k y).natAbs := by
  obtain ⟨M, c, h1, h2⟩ := sum_fin true hx hy (Z k x - Z k y) (by simp [Int.sub_eq_add_neg])
  refine ⟨M, c, ?_, h2⟩
  simp only [if_true, Bool.true_xor] at h1
  unfold fsub fop floatBits Format.sub
  simp only [h1]; rfl

theorem Z_abs {k : FloatKind} {x : Nat} : (Z k x).natAbs = V k x := by unfold Z; split <;> simp

theorem near_sum {M c p : Nat} {s : Bool} {z : Int} (h : M * 2 ^ c = z.natAbs) (h1 : 52 ≤ p) (h2 : p ≤ 2097) (hz : z.natAbs ≤ 2 ^ p) :
    fin .f64 (FloatKind.f64.format.nearest s M (FloatKind.f64.format.leastPlace + c)) ∧ V .f64 (FloatKind.f64.format.nearest s M (FloatKind.f64.format.leastPlace + c)) ≤ 2 ^ p := by
  have hL : FloatKind.f64.format.leastPlace = -1074 := rfl
  rw [hL]
  refine near_bnd s h1 h2 ?_
  refine scale (i := c) (j := 0) ?_ (by omega)
  rw [h]; simpa using hz

theorem fadd_bnd {x y p : Nat} (hx : fin .f64 x) (hy : fin .f64 y) (hp : V .f64 x ≤ 2 ^ p) (hq : V .f64 y ≤ 2 ^ p) (h1 : 52 ≤ p) (h2 : p ≤ 2096) : fin .f64 (fadd .f64 x y) ∧ V .f64 (fadd .f64 x y) ≤ 2 ^ (p + 1) := by
  obtain ⟨M, c, e, h⟩ := fadd_fin hx hy
  rw [e]
  refine near_sum h (by omega) (by omega) ?_
  have := Int.natAbs_add_le (Z .f64 x) (Z .f64 y)
  rw [Z_abs, Z_abs] at this
  rw [Nat.pow_succ]; omega

theorem fsub_bnd {x y p : Nat} (hx : fin .f64 x) (hy : fin .f64 y) (hp : V .f64 x ≤ 2 ^ p) (hq : V .f64 y ≤ 2 ^ p) (h1 : 52 ≤ p) (h2 : p ≤ 2096) : fin .f64 (fsub .f64 x y) ∧ V .f64 (fsub .f64 x y) ≤ 2 ^ (p + 1) := by
  obtain ⟨M, c, e, h⟩ := fsub_fin hx hy
  rw [e]
  refine near_sum h (by omega) (by omega) ?_
  have := Int.natAbs_sub_le (Z .f64 x) (Z .f64 y)
  rw [Z_abs, Z_abs] at this
  rw [Nat.pow_succ]; omega

/-- Divided by a number that is not less than 2 to the power of q places. -/
theorem fdiv_bnd {x y p q : Nat} (hx : fin .f64 x) (hy : fin .f64 y) (hp : V .f64 x ≤ 2 ^ p) (hq : 2 ^ q ≤ V .f64 y) (h1 : q + 52 ≤ p + 1074) (h2 : p + 1074 ≤ 2097 + q) : fin .f64 (fdiv .f64 x y) ∧ V .f64 (fdiv .f64 x y) ≤ 2 ^ (p + 1074 - q) := by
  obtain ⟨m, a, hr, e⟩ := fin_read hx
  obtain ⟨n, b, hr', e'⟩ := fin_read hy
  have hn : n ≠ 0 := by
    rintro rfl
    have := Nat.two_pow_pos q
    omega
  have hd : fdiv .f64 x y = FloatKind.f64.format.nearest (sg .f64 x ^^ sg .f64 y) (2 * (m <<< (54 + n.log2 - m.log2) / n) + (m <<< (54 + n.log2 - m.log2) % n != 0).toNat) (FloatKind.f64.format.leastPlace + a - (FloatKind.f64.format.leastPlace + b) - (54 + n.log2 - m.log2 : Nat) - 1) := by
    unfold fdiv fop floatBits Format.div
    rw [hr, hr']
    simp only [Datum.quotient, hn, if_false]
    rfl
  rw [hd]
  have hL : FloatKind.f64.format.leastPlace = -1074 := rfl
  rw [hL, Nat.shiftLeft_eq]
  have hmore : m ≠ 0 → n ≤ m * 2 ^ (54 + n.log2 - m.log2) := fun hm => by
    have h3 : 2 ^ m.log2 * 2 ^ (54 + n.log2 - m.log2) ≤ m * 2 ^ (54 + n.log2 - m.log2) := Nat.mul_le_mul_right _ (Nat.log2_self_le hm)
    rw [← Nat.pow_add] at h3
    have h4 : n < 2 ^ (n.log2 + 1) := Nat.lt_log2_self
    have h5 : 2 ^ (n.log2 + 1) ≤ 2 ^ (m.log2 + (54 + n.log2 - m.log2)) := Nat.pow_le_pow_right (by omega) (by omega)
    omega
  generalize 54 + n.log2 - m.log2 = more at *
  refine near_bnd _ (by omega) (by omega) ?_
  by_cases hm : m = 0
  · subst hm
    simp
  have hn0 : 0 < n := Nat.pos_of_ne_zero hn
  have hX := Nat.div_add_mod (m * 2 ^ more) n
  have hX1 : 1 ≤ m * 2 ^ more / n := (Nat.le_div_iff_mul_le hn0).2 (by have := hmore hm; omega)
  -- the quotient is not too great
  have up : ∀ y : Nat, y * n ≤ m * 2 ^ more → y * 2 ^ (q + a) ≤ 2 ^ (p + more + b) := fun y hy => by
    have h3 : y * 2 ^ q ≤ m * 2 ^ more * 2 ^ b := by
      refine Nat.le_trans (Nat.mul_le_mul_left y hq) ?_
      rw [← e', ← Nat.mul_assoc]
      exact Nat.mul_le_mul_right _ hy
    rw [Nat.pow_add, ← Nat.mul_assoc]
    refine Nat.le_trans (Nat.mul_le_mul_right _ h3) ?_
    rw [show m * 2 ^ more * 2 ^ b * 2 ^ a = m * 2 ^ a * 2 ^ (more + b) by rw [Nat.pow_add]; simp only [Nat.mul_assoc, Nat.mul_comm, Nat.mul_left_comm], e, Nat.add_assoc, Nat.pow_add 2 p]
    exact Nat.mul_le_mul_right _ hp
  have hXn : m * 2 ^ more / n * n ≤ m * 2 ^ more := Nat.div_mul_le_self _ _
  have hK : q + a ≤ p + more + b := by
    have h3 := up 1 (by rw [Nat.one_mul]; exact hmore hm)
    rw [Nat.one_mul] at h3
    exact (Nat.pow_le_pow_iff_right (by omega)).1 h3
  have hXK : m * 2 ^ more / n ≤ 2 ^ (p + more + b - (q + a)) := by
    have h3 := up _ hXn
    have h4 : 2 ^ (p + more + b) = 2 ^ (p + more + b - (q + a)) * 2 ^ (q + a) := by rw [← Nat.pow_add]; congr 1; omega
    rw [h4] at h3
    exact Nat.le_of_mul_le_mul_right h3 (Nat.two_pow_pos _)
  have key : 2 * (m * 2 ^ more / n) + (m * 2 ^ more % n != 0).toNat ≤ 2 ^ (p + more + b - (q + a) + 1) := by
    rw [Nat.pow_succ]
    cases hs : (m * 2 ^ more % n != 0)
    · simp; omega
    · have hr0 : m * 2 ^ more % n ≠ 0 := by simpa using hs
      have hlt : m * 2 ^ more / n < 2 ^ (p + more + b - (q + a)) := by
        refine Nat.lt_of_le_of_ne hXK fun he => ?_
        -- then n times it is the dividend
        have h3 : n * 2 ^ (p + more + b - (q + a)) < m * 2 ^ more := by rw [← he]; omega
        have h4 : n * 2 ^ (p + more + b - (q + a)) * 2 ^ (a + b) < m * 2 ^ more * 2 ^ (a + b) := Nat.mul_lt_mul_of_pos_right h3 (Nat.two_pow_pos _)
        have h5 : m * 2 ^ more * 2 ^ (a + b) ≤ 2 ^ (p + more + b) := by
          rw [show m * 2 ^ more * 2 ^ (a + b) = m * 2 ^ a * 2 ^ (more + b) by rw [Nat.pow_add, Nat.pow_add]; simp only [Nat.mul_assoc, Nat.mul_comm, Nat.mul_left_comm], e, Nat.add_assoc, Nat.pow_add 2 p]
          exact Nat.mul_le_mul_right _ hp
        have h6 : 2 ^ (p + more + b) ≤ n * 2 ^ (p + more + b - (q + a)) * 2 ^ (a + b) := by
          rw [show n * 2 ^ (p + more + b - (q + a)) * 2 ^ (a + b) = n * 2 ^ b * 2 ^ (p + more + b - (q + a) + a) by rw [Nat.pow_add, Nat.pow_add]; simp only [Nat.mul_assoc, Nat.mul_comm, Nat.mul_left_comm], e']
          refine Nat.le_trans ?_ (Nat.mul_le_mul_right _ hq)
          rw [← Nat.pow_add]
          exact Nat.pow_le_pow_right (by omega) (by omega)
        omega
      simp; omega
  have key2 : (2 * (m * 2 ^ more / n) + (m * 2 ^ more % n != 0).toNat) * 2 ^ 0 ≤ 1 * 2 ^ (p + more + b - (q + a) + 1) := by simpa using key
  have key3 := scale (i' := (-1074 + (a : Int) - (-1074 + b) - more - 1 + 1074).toNat) (j' := p + 1074 - q + (-1074 - (-1074 + (a : Int) - (-1074 + b) - more - 1)).toNat) key2 (by omega)
  rw [Nat.one_mul, Nat.pow_add] at key3
  exact key3

/-- A number of double precision of at most 2 to the power of c places. -/
def bd (c x : Nat) : Prop := fin .f64 x ∧ V .f64 x ≤ 2 ^ c
theorem bd.fin {c x : Nat} (h : bd c x) : fin .f64 x := h.1
theorem bd.up {p x : Nat} (q : Nat) (h : bd p x) (hpq : p ≤ q) : bd q x := ⟨h.1, Nat.le_trans h.2 (Nat.pow_le_pow_right (by omega) hpq)⟩
theorem bd.mul {x y p q : Nat} (r : Nat) (hx : bd p x) (hy : bd q y) (h1 : 1126 ≤ p + q) (h2 : p + q ≤ 3171) (hr : p + q ≤ r + 1074) : bd r (fmul .f64 x y) := by
  have h := fmul_bnd hx.1 hy.1 hx.2 hy.2 h1 h2
  exact bd.up r h (by omega)
theorem bd.add {x y p q : Nat} (r : Nat) (hx : bd p x) (hy : bd q y) (h1 : 53 ≤ r) (h2 : r ≤ 2097) (hp : p + 1 ≤ r) (hq : q + 1 ≤ r) : bd r (fadd .f64 x y) := by
  have h := fadd_bnd hx.1 hy.1 (hx.up (r - 1) (by omega)).2 (hy.up (r - 1) (by omega)).2 (by omega) (by omega)
  exact bd.up r h (by omega)
theorem bd.sub {x y p q : Nat} (r : Nat) (hx : bd p x) (hy : bd q y) (h1 : 53 ≤ r) (h2 : r ≤ 2097) (hp : p + 1 ≤ r) (hq : q + 1 ≤ r) : bd r (fsub .f64 x y) := by
  have h := fsub_bnd hx.1 hy.1 (hx.up (r - 1) (by omega)).2 (hy.up (r - 1) (by omega)).2 (by omega) (by omega)
  exact bd.up r h (by omega)
/-- Not less than 2 to the power of q places. -/
def lo (q y : Nat) : Prop := fin .f64 y ∧ 2 ^ q ≤ V .f64 y
theorem bd.div {x y p q : Nat} (r : Nat) (hx : bd p x) (hy : lo q y) (h1 : q + 52 ≤ p + 1074) (h2 : p + 1074 ≤ 2097 + q) (hr : p + 1074 ≤ r + q) : bd r (fdiv .f64 x y) := by
  have h := fdiv_bnd hx.1 hy.1 hx.2 hy.2 h1 h2
  exact bd.up r h (by omega)
end Go.Fw
/- Whole numbers in double precision; a number less its whole part. No condition. -/
namespace Go.Fw
open Ieee

section ord
variable {k : FloatKind} {x y : Nat} (hx : fin k x) (hy : fin k y)
include hx hy
theorem flt_fin : flt k x y = decide (Z k x < Z k y) := by
  unfold flt; rw [order_fin hx hy, Bool.eq_iff_iff]; simp [Int.compare_eq_lt]
theorem fgt_fin : fgt k x y = decide (Z k y < Z k x) := by
  unfold fgt; rw [order_fin hx hy, Bool.eq_iff_iff]; simp [Int.compare_eq_gt]
theorem feq_fin : feq k x y = decide (Z k x = Z k y) := by
  unfold feq; rw [order_fin hx hy, Bool.eq_iff_iff]; simp
theorem fle_fin : fle k x y = decide (Z k x ≤ Z k y) := by
  unfold fle; rw [order_fin hx hy, Bool.eq_iff_iff]; simp [Int.compare_eq_lt]; omega
theorem fge_fin : fge k x y = decide (Z k y ≤ Z k x) := by
  unfold fge; rw [order_fin hx hy, Bool.eq_iff_iff]; simp [Int.compare_eq_gt]; omega
end ord

theorem fin_of_sub {k : FloatKind} {y : Nat} (h : feq k (fsub k y y) 0 = true) : fin k y := by
  rcases read_cases k.format y with ⟨h1, _⟩ | ⟨_, h1, _⟩ | ⟨_, h2⟩ | ⟨_, t, h2⟩
  · exact Nat.lt_of_lt_of_le h1 (binade_leK k)
  · exact h1
  · exfalso
    have : fsub k y y = qnan k := by
      unfold fsub fop floatBits Format.sub
      simp only [h2]
      generalize (y / k.format.signWeight % 2 == 1) = s
      cases s <;> rfl
    rw [this, feq_nan (isNan_qnan k)] at h
    cases h
  · exfalso
    have hn : isNan k y = true := by
      show (k.format.read y).isNaN = true
      rw [h2]; rfl
    have : fsub k y y = qnan k := fop_nan hn
    rw [this, feq_nan (isNan_qnan k)] at h
    cases h

theorem word_self {k : FloatKind} {x : Nat} (hx : x < 2 ^ k.format.width) : k.format.word (sg k x) (x % k.format.signWeight) = x := by
  rw [sw_two k] at hx
  have h := two_parts k.format hx
  unfold Format.word sg
  rcases Nat.mod_two_eq_zero_or_one (x / k.format.signWeight) with h1 | h1
  · rw [h1] at h ⊢
    simp; omega
  · rw [h1] at h ⊢
    simp; omega

theorem Z_pos {k : FloatKind} {x : Nat} (h : V k x ≠ 0) : (Z k x < 0 ↔ sg k x = true) ∧ Z k x ≠ 0 := by
  unfold Z
  cases sg k x
  · simp; omega
  · simp; omega

theorem near_val {k : FloatKind} {s : Bool} {M c r : Nat} (hi : r ≤ k.format.infRung) (h : M * 2 ^ c = mag k.format.binade r) : k.format.nearest s M (k.format.leastPlace + c) = k.format.word s r := by
  refine near_eq k.format s hi ?_
  rw [show (k.format.leastPlace + (c : Int) - k.format.leastPlace).toNat = c by omega, show (k.format.leastPlace - (k.format.leastPlace + (c : Int))).toNat = 0 by omega, Nat.pow_zero, Nat.mul_one]
  exact h

theorem fsub_zero {k : FloatKind} {x : Nat} (hx : x < 2 ^ k.format.width) (hf : fin k x) : fsub k x 0 = x := by
  have h0 : fin k 0 := by
    show 0 % _ < _
    rw [Nat.zero_mod]
    exact Nat.lt_of_lt_of_le (Nat.two_pow_pos _) (binade_leK k)
  have hV : V k 0 = 0 := by
    unfold V mag
    rw [Nat.zero_mod, if_pos (show 0 < k.format.binade from Nat.two_pow_pos _)]
  have hs : sg k 0 = false := by
    unfold sg; rw [Nat.zero_div]; rfl
  have hZ : Z k 0 = 0 := by unfold Z; rw [hs, hV]; rfl
  obtain ⟨M, c, e, h⟩ := fsub_fin hf h0
  rw [hZ, Int.sub_zero] at e h
  rw [Z_abs] at h
  rw [e, near_val (Nat.le_of_lt hf) h]
  have : (if Z k x = 0 then sg k x && !sg k 0 else decide (Z k x < 0)) = sg k x := by
    rw [hs]
    by_cases hv : V k x = 0
    · have : Z k x = 0 := by have := Z_abs (k := k) (x := x); omega
      rw [if_pos this]; simp
    · obtain ⟨h1, h2⟩ := Z_pos hv
      rw [if_neg h2, Bool.eq_iff_iff]
      simpa using h1
  rw [this]
  exact word_self hx

theorem mag_of {B q t : Nat} (h : t < B) : mag B ((q + 1) * B + t) = (B + t) * 2 ^ q := by
  have hB : 0 < B := by omega
  unfold mag
  rw [if_neg (by rw [Nat.succ_mul]; omega), Nat.add_comm _ t, Nat.add_mul_mod_self_right, Nat.mod_eq_of_lt h, Nat.add_mul_div_right _ _ hB, Nat.div_eq_of_lt h]
  congr 2; omega

/-- Whole numbers of at most 53 digits are numbers of double precision. -/
theorem rep_nat {m K : Nat} (hK : K = 1074) (hm : m < 2 ^ 53) : ∃ r, r < FloatKind.f64.format.infRung ∧ mag FloatKind.f64.format.binade r = m * 2 ^ K := by
  have hB : FloatKind.f64.format.binade = 2 ^ 52 := rfl
  have hI : FloatKind.f64.format.infRung = 2047 * FloatKind.f64.format.binade := rfl
  have hBp : 0 < FloatKind.f64.format.binade := Nat.two_pow_pos _
  by_cases h0 : m = 0
  · exact ⟨0, by omega, by subst h0; rw [Nat.zero_mul]; unfold mag; rw [if_pos hBp]⟩
  · have hl : m.log2 < 53 := (Nat.log2_lt h0).2 hm
    have h1 : 2 ^ m.log2 * 2 ^ (52 - m.log2) ≤ m * 2 ^ (52 - m.log2) := Nat.mul_le_mul_right _ (Nat.log2_self_le h0)
    have h2 : m * 2 ^ (52 - m.log2) < 2 ^ (m.log2 + 1) * 2 ^ (52 - m.log2) := Nat.mul_lt_mul_of_pos_right Nat.lt_log2_self (Nat.two_pow_pos _)
    rw [← Nat.pow_add, show m.log2 + (52 - m.log2) = 52 by omega, ← hB] at h1
    rw [← Nat.pow_add, show m.log2 + 1 + (52 - m.log2) = 52 + 1 by omega, Nat.pow_succ, ← hB] at h2
    refine ⟨(K + m.log2 - 52 + 1) * FloatKind.f64.format.binade + (m * 2 ^ (52 - m.log2) - FloatKind.f64.format.binade), ?_, ?_⟩
    · have : (K + m.log2 - 52 + 1) * FloatKind.f64.format.binade ≤ 2000 * FloatKind.f64.format.binade := Nat.mul_le_mul_right _ (by omega)
      omega
    · rw [mag_of (by omega), show FloatKind.f64.format.binade + (m * 2 ^ (52 - m.log2) - FloatKind.f64.format.binade) = m * 2 ^ (52 - m.log2) by omega, Nat.mul_assoc, ← Nat.pow_add]
      congr 2; omega

theorem near_whole (s : Bool) {m K : Nat} (hK : K = 1074) (hm : m < 2 ^ 53) : fin .f64 (FloatKind.f64.format.nearest s m 0) ∧ V .f64 (FloatKind.f64.format.nearest s m 0) = m * 2 ^ K ∧ sg .f64 (FloatKind.f64.format.nearest s m 0) = s := by
  obtain ⟨r, hr, e⟩ := rep_nat hK hm
  have : FloatKind.f64.format.nearest s m 0 = FloatKind.f64.format.word s r := by
    refine near_eq _ s (Nat.le_of_lt hr) ?_
    have hL : FloatKind.f64.format.leastPlace = -1074 := rfl
    rw [hL, show ((0 : Int) - -1074).toNat = K by omega, show ((-1074 : Int) - 0).toNat = 0 by omega, e, Nat.pow_zero, Nat.mul_one]
  rw [this]
  obtain ⟨h1, h2, h3⟩ := word_fin (k := .f64) (s := s) hr
  exact ⟨h1, by rw [h2, e], h3⟩

theorem int_part (m a K : Nat) : m * 2 ^ (a - K) / 2 ^ (K - a) = m * 2 ^ a / 2 ^ K := by
  rcases Nat.le_total K a with h | h
  · rw [show K - a = 0 by omega, Nat.pow_zero, Nat.div_one]
    have : m * 2 ^ a = m * 2 ^ (a - K) * 2 ^ K := by rw [Nat.mul_assoc, Nat.pow_sub_mul_pow 2 h]
    rw [this, Nat.mul_div_cancel _ (Nat.two_pow_pos _)]
  · rw [show a - K = 0 by omega, Nat.pow_zero, Nat.mul_one]
    have : 2 ^ K = 2 ^ (K - a) * 2 ^ a := (Nat.pow_sub_mul_pow 2 h).symm
    rw [this, Nat.mul_div_mul_right _ _ (Nat.two_pow_pos _)]

theorem trunc_fin {y K : Nat} (hK : K = 1074) (hf : fin .f64 y) : (FloatKind.f64.decode y).integral .zero = .number (sg .f64 y) (V .f64 y / 2 ^ K) 0 := by
  obtain ⟨m, a, hr, e⟩ := fin_read hf
  show (FloatKind.f64.format.read y).integral .zero = _
  rw [hr]
  have hL : FloatKind.f64.format.leastPlace = -1074 := rfl
  rw [hL, ← e, ← int_part]
  show Datum.number _ (Toward.zero.cut _ (m <<< (-1074 + (a : Int)).toNat) (-(-1074 + (a : Int))).toNat) 0 = _
  rw [zero_cut, Nat.shiftLeft_eq, show (-1074 + (a : Int)).toNat = a - K by omega, show (-(-1074 + (a : Int))).toNat = K - a by omega]

/-- A number less its whole part, said in two ways. -/
theorem frac_same {y K : Nat} (hK : K = 1074) (hy : y < 2 ^ 64) (hf : fin .f64 y) (hV : V .f64 y < 2 ^ K * 2 ^ 52) : ∃ f n t, fin .f64 f ∧ V .f64 f ≤ 2 ^ K ∧
    floatToIntVal .f64 y .i64 = some n ∧ fsub .f64 y (fofInt .f64 n) = f ∧ g_archTrunc y = some t ∧ (feq .f64 t 0 = true → y = f) ∧ (feq .f64 t 0 = false → fsub .f64 y t = f) := by
  have hT := trunc_fin hK hf
  have hpos := Nat.two_pow_pos K
  have hq : V .f64 y / 2 ^ K < 2 ^ 52 := Nat.div_lt_of_lt_mul hV
  have hdm := Nat.div_add_mod (V .f64 y) (2 ^ K)
  have hmod := Nat.mod_lt (V .f64 y) hpos
  have ht : g_archTrunc y = some (FloatKind.f64.format.nearest (sg .f64 y) (V .f64 y / 2 ^ K) 0) := by
    unfold g_archTrunc g_whole fround
    rw [fin_nan hf, hT]; rfl
  have hn : floatToIntVal .f64 y .i64 = some (signed (sg .f64 y) (V .f64 y / 2 ^ K) 0) := by
    have hti : (FloatKind.f64.decode y).toInt .zero = some (signed (sg .f64 y) (V .f64 y / 2 ^ K) 0) := by
      unfold Datum.toInt; rw [hT]
    unfold floatToIntVal
    rw [hti]
    dsimp only
    rw [if_pos]
    rw [signed_eq, Nat.pow_zero, Nat.mul_one]
    have e1 : IntKind.i64.min = -9223372036854775808 := rfl
    have e2 : IntKind.i64.max = 9223372036854775807 := rfl
    rw [e1, e2]
    generalize V .f64 y / 2 ^ K = u at *
    cases sg .f64 y
    · simp; omega
    · simp; omega
  have hfo : fofInt .f64 (signed (sg .f64 y) (V .f64 y / 2 ^ K) 0) = if V .f64 y / 2 ^ K = 0 then 0 else FloatKind.f64.format.nearest (sg .f64 y) (V .f64 y / 2 ^ K) 0 := by
    show FloatKind.f64.format.nearest (decide (signed (sg .f64 y) (V .f64 y / 2 ^ K) 0 < 0)) (signed (sg .f64 y) (V .f64 y / 2 ^ K) 0).natAbs 0 = _
    rw [signed_eq, Nat.pow_zero, Nat.mul_one]
    generalize V .f64 y / 2 ^ K = u at *
    by_cases hu : u = 0
    · subst hu
      rw [if_pos rfl]
      cases sg .f64 y <;> rfl
    · rw [if_neg hu]
      have hu' : 0 < u := by omega
      cases sg .f64 y
      · rw [show decide ((if false = true then -1 else (1 : Int)) * (u : Int) < 0) = false by simp]
        simp
      · rw [show decide ((if true = true then -1 else (1 : Int)) * (u : Int) < 0) = true by simp; omega]
        simp
  obtain ⟨w1, w2, w3⟩ := near_whole (sg .f64 y) hK (m := V .f64 y / 2 ^ K) (by omega)
  have h00 : fin .f64 0 := by unfold fin; decide +kernel
  have hZ0 : Z .f64 0 = 0 := by decide +kernel
  by_cases hu : V .f64 y / 2 ^ K = 0
  · refine ⟨y, _, _, hf, ?_, hn, ?_, ht, fun _ => rfl, fun h => ?_⟩
    · rw [hu, Nat.mul_zero] at hdm; omega
    · rw [hfo, if_pos hu]; exact fsub_zero hy hf
    · exfalso
      rw [feq_fin w1 h00, hZ0, decide_eq_false_iff_not] at h
      apply h
      unfold Z
      rw [w2, hu, Nat.zero_mul]
      split <;> rfl
  · rw [if_neg hu] at hfo
    have hd : (Z .f64 y - Z .f64 (FloatKind.f64.format.nearest (sg .f64 y) (V .f64 y / 2 ^ K) 0)).natAbs ≤ 2 ^ K := by
      unfold Z
      rw [w2, w3, Nat.mul_comm _ (2 ^ K)]
      generalize 2 ^ K * (V .f64 y / 2 ^ K) = u at *
      cases sg .f64 y
      · simp; omega
      · simp; omega
    obtain ⟨M, c, e, h⟩ := fsub_fin hf w1
    obtain ⟨b1, b2⟩ := near_sum (s := if Z .f64 y - Z .f64 (FloatKind.f64.format.nearest (sg .f64 y) (V .f64 y / 2 ^ K) 0) = 0 then sg .f64 y && !sg .f64 (FloatKind.f64.format.nearest (sg .f64 y) (V .f64 y / 2 ^ K) 0) else decide (Z .f64 y - Z .f64 (FloatKind.f64.format.nearest (sg .f64 y) (V .f64 y / 2 ^ K) 0) < 0)) h (by omega) (by omega) hd
    rw [← e] at b1 b2
    refine ⟨_, _, _, b1, b2, hn, by rw [hfo], ht, fun h => ?_, fun _ => rfl⟩
    exfalso
    rw [feq_fin w1 h00, hZ0, decide_eq_true_eq] at h
    have h5 := Z_abs (k := .f64) (x := FloatKind.f64.format.nearest (sg .f64 y) (V .f64 y / 2 ^ K) 0)
    rw [h, w2] at h5
    have := Nat.mul_pos (Nat.pos_of_ne_zero hu) hpos
    simp at h5
    omega
end Go.Fw
/- The order of floating point numbers by their words. No condition. -/
namespace Go.Fw
open Ieee

theorem mag_lt_iff {B r s : Nat} (hB : 0 < B) : mag B r < mag B s ↔ r < s := by
  constructor
  · intro h
    rcases Nat.lt_or_ge r s with h1 | h1
    · exact h1
    · have := mag_mono hB h1; omega
  · intro h
    have h1 := mag_mono hB (Nat.le_of_lt h)
    rcases Nat.lt_or_ge (mag B r) (mag B s) with h2 | h2
    · exact h2
    · have := mag_inj hB (show mag B r = mag B s by omega); omega

section ord
variable {k : FloatKind} {x y : Nat} (hx : isNan k x = false) (hy : isNan k y = false)
include hx hy
end ord

theorem fsub_self {k : FloatKind} {x : Nat} (h : fin k x) : fsub k x x = 0 := by
  obtain ⟨M, c, e, h2⟩ := fsub_fin h h
  rw [Int.sub_self] at e h2
  have hM : M = 0 := by
    rcases Nat.eq_zero_or_pos M with h3 | h3
    · exact h3
    · have := Nat.mul_pos h3 (Nat.two_pow_pos c)
      rw [h2] at this; simp at this
  rw [e, hM, if_pos rfl]
  unfold Format.nearest Format.word
  rw [if_pos rfl]
  cases sg k x <;> rfl

theorem zero_fin (k : FloatKind) : fin k 0 := by
  show 0 % _ < _
  rw [Nat.zero_mod]
  exact Nat.lt_of_lt_of_le (Nat.two_pow_pos _) (binade_leK k)

/-- Finite: its difference with itself is nothing. -/
theorem finite_iff (k : FloatKind) (x : Nat) : feq k (fsub k x x) 0 = true ↔ fin k x := by
  refine ⟨fin_of_sub, fun h => ?_⟩
  rw [fsub_self h, feq_self, fin_nan (zero_fin k)]; rfl

/-! ### words of single precision -/
end Go.Fw
/- Sums and halves that are exact; what is nearest to a number of double precision in single precision. No condition. -/
namespace Go.Fw
open Ieee

theorem V_read {k : FloatKind} {x M a : Nat} {s : Bool} (h : k.format.read x = .number s M (k.format.leastPlace + a)) : fin k x ∧ V k x = M * 2 ^ a ∧ sg k x = s := by
  have hf : fin k x := by
    rcases read_cases k.format x with ⟨h1, _⟩ | ⟨_, h1, _⟩ | ⟨_, h2⟩ | ⟨_, t, h2⟩
    · exact Nat.lt_of_lt_of_le h1 (binade_leK k)
    · exact h1
    · rw [h] at h2; cases h2
    · rw [h] at h2; cases h2
  obtain ⟨m, b, hr, e⟩ := fin_read hf
  rw [h] at hr
  simp only [Datum.number.injEq] at hr
  obtain ⟨h1, h2, h3⟩ := hr
  have : a = b := by omega
  subst this
  exact ⟨hf, by rw [← e, h2], h1.symm⟩

/-- Widening keeps the number. -/
theorem wide_val {x K : Nat} (hK : K = 925) (hx : x < 2 ^ 32) (hf : fin .f32 x) : fin .f64 (fwide x) ∧ V .f64 (fwide x) = V .f32 x * 2 ^ K ∧ sg .f64 (fwide x) = sg .f32 x := by
  have hn := fin_nan hf
  have hL : FloatKind.f32.format.leastPlace = -149 := rfl
  have hL2 : FloatKind.f64.format.leastPlace = -1074 := rfl
  have hB : FloatKind.f32.format.binade = 2 ^ 23 := rfl
  have hI : FloatKind.f32.format.infRung = 255 * FloatKind.f32.format.binade := rfl
  obtain ⟨m, a, hr, e⟩ := fin_read hf
  have hm : m < 2 ^ 24 ∧ a ≤ 253 := by
    rcases read_cases FloatKind.f32.format x with ⟨h1, h2⟩ | ⟨_, h1, h2⟩ | ⟨_, h2⟩ | ⟨_, t, h2⟩
    · rw [hr] at h2
      simp only [Datum.number.injEq] at h2
      omega
    · rw [hr] at h2
      simp only [Datum.number.injEq] at h2
      have hB0 : 0 < FloatKind.f32.format.binade := Nat.two_pow_pos _
      have h3 := Nat.mod_lt (x % FloatKind.f32.format.signWeight) hB0
      have h4 : x % FloatKind.f32.format.signWeight / FloatKind.f32.format.binade < 255 := Nat.div_lt_of_lt_mul (by rw [Nat.mul_comm, ← hI]; exact h1)
      omega
    · rw [hr] at h2; cases h2
    · rw [hr] at h2; cases h2
  by_cases hm0 : m = 0
  · have hz : V .f32 x = 0 := by rw [← e, hm0, Nat.zero_mul]
    have hw := fwide_num hx hn hr
    rw [hm0] at hw
    have hw2 : fwide x = FloatKind.f64.format.word (sg .f32 x) 0 := by
      rw [hw]; unfold Format.nearest; rw [if_pos rfl]
    obtain ⟨w1, w2, w3⟩ := word_fin (k := .f64) (s := sg .f32 x) (g := 0) (by decide)
    rw [hw2, hz, Nat.zero_mul]
    exact ⟨w1, w2, w3⟩
  · have hl : m.log2 < 24 := (Nat.log2_lt hm0).2 hm.1
    have hw := wide_read hx hn hr hm0 hm.1 (by omega) (by omega)
    have h2 := V_read (k := .f64) (a := a + m.log2 + 873) (hw.trans (by rw [hL, hL2, show (-149 + (a : Int) + m.log2 - 52) = -1074 + ((a + m.log2 + 873 : Nat) : Int) by omega]))
    refine ⟨h2.1, ?_, h2.2.2⟩
    rw [h2.2.1, ← e, Nat.mul_assoc, Nat.mul_assoc, ← Nat.pow_add, ← Nat.pow_add, show 52 - m.log2 + (a + m.log2 + 873) = a + K by omega]

theorem wide_Z {x K : Nat} (hK : K = 925) (hx : x < 2 ^ 32) (hf : fin .f32 x) : fin .f64 (fwide x) ∧ Z .f64 (fwide x) = Z .f32 x * ((2 ^ K : Nat) : Int) := by
  obtain ⟨h1, h2, h3⟩ := wide_val hK hx hf
  refine ⟨h1, ?_⟩
  unfold Z
  rw [h2, h3, Int.natCast_mul]
  cases sg .f32 x
  · simp
  · simp only [if_true, Int.neg_mul]

end Go.Fw
/- What is nearest between two neighbours. No condition. -/
namespace Go.Fw
open Ieee

def sgn (s : Bool) (n : Nat) : Int := if s then -(n : Int) else n
end Go.Fw
/- Plain facts for printed texts: what an optional value comes to; loops with invariants; conditions as propositions. No condition. -/
namespace Go.Fw

/-- It comes to a value with the property. -/
def Ret {α : Type} (x : Option α) (Q : α → Prop) : Prop := ∃ y, x = some y ∧ Q y

theorem Ret.pure {α : Type} {y : α} {Q : α → Prop} (h : Q y) : Ret (some y) Q := ⟨y, rfl, h⟩
theorem Ret.bind {α β : Type} {x : Option α} {f : α → Option β} {Q : β → Prop} (h : Ret x fun y => Ret (f y) Q) : Ret (Option.bind x f) Q := by
  obtain ⟨y, rfl, z, hz, hq⟩ := h
  exact ⟨z, hz, hq⟩
theorem Ret.cond {α : Type} {c : Bool} {a b : Option α} {Q : α → Prop} (h : c = true → Ret a Q) (h' : c = false → Ret b Q) : Ret (bif c then a else b) Q := by
  cases c
  · exact h' rfl
  · exact h rfl
theorem Ret.ix {α : Type} {i : Int} {n : Nat} {f : Nat → Option α} {Q : α → Prop} (h0 : 0 ≤ i) (h1 : i < n) (h : Ret (f i.toNat) Q) : Ret (Option.bind (ix i n) f) Q := by
  rw [ix_ok h0 h1]; exact h
theorem Ret.mono {α : Type} {x : Option α} {P Q : α → Prop} (h : Ret x P) (hpq : ∀ y, P y → Q y) : Ret x Q := by
  obtain ⟨y, hy, hp⟩ := h
  exact ⟨y, hy, hpq y hp⟩
theorem Ret.iter {D O : Type} {step : (D → Option O) → D → Option O} (P : Nat → D → Prop) (Q : O → Prop)
    (h : ∀ r n d, P n d → (∀ m d', m < n → P m d' → Ret (r d') Q) → Ret (step r d) Q) : ∀ N n d, P n d → n < N → Ret (iter step N d) Q := by
  intro N
  induction N with
  | zero => intro n d _ h0; omega
  | succ N ih =>
    intro n d hp hn
    rw [iter_succ]
    exact h _ n d hp fun m d' hm hp' => ih m d' hp' (by omega)

/-- Both come to values that belong together. -/
def Ret2 {α β : Type} (x : Option α) (x' : Option β) (Q : α → β → Prop) : Prop := ∃ y y', x = some y ∧ x' = some y' ∧ Q y y'

theorem Ret2.pure {α β : Type} {y : α} {y' : β} {Q : α → β → Prop} (h : Q y y') : Ret2 (some y) (some y') Q := ⟨y, y', rfl, rfl, h⟩
theorem Ret2.cond {α β : Type} {c c' : Bool} {a b : Option α} {a' b' : Option β} {Q : α → β → Prop} (hc : c = c') (h : c = true → Ret2 a a' Q) (h' : c = false → Ret2 b b' Q) : Ret2 (bif c then a else b) (bif c' then a' else b') Q := by
  subst hc
  cases c
  · exact h' rfl
  · exact h rfl
theorem Ret2.mono {α β : Type} {x : Option α} {x' : Option β} {P Q : α → β → Prop} (h : Ret2 x x' P) (hpq : ∀ y y', P y y' → Q y y') : Ret2 x x' Q := by
  obtain ⟨y, y', hy, hy', hp⟩ := h
  exact ⟨y, y', hy, hy', hpq y y' hp⟩
theorem Ret2.iter {D O D' O' : Type} {step : (D → Option O) → D → Option O} {step' : (D' → Option O') → D' → Option O'} (P : Nat → D → D' → Prop) (Q : O → O' → Prop)
    (h : ∀ r r' n d e, P n d e → (∀ m d' e', m < n → P m d' e' → Ret2 (r d') (r' e') Q) → Ret2 (step r d) (step' r' e) Q) : ∀ N n d e, P n d e → n < N → Ret2 (iter step N d) (iter step' N e) Q := by
  intro N
  induction N with
  | zero => intro n d e _ h0; omega
  | succ N ih =>
    intro n d e hp hn
    rw [iter_succ, iter_succ]
    exact h _ _ n d e hp fun m d' e' hm hp' => ih m d' e' hp' (by omega)

/-- Both come to the same value, which has the property. -/
def Same {α : Type} (x x' : Option α) (Q : α → Prop) : Prop := ∃ y, x = some y ∧ x' = some y ∧ Q y
theorem Same.of {α : Type} {x x' : Option α} {Q : α → Prop} (h : x = x') (hr : Ret x Q) : Same x x' Q := by
  obtain ⟨y, hy, hq⟩ := hr
  exact ⟨y, hy, h ▸ hy, hq⟩
theorem Same.ret {α : Type} {x x' : Option α} {Q : α → Prop} (h : Same x x' Q) : Ret x Q := by
  obtain ⟨y, hy, _, hq⟩ := h
  exact ⟨y, hy, hq⟩
theorem Same.eq {α : Type} {x x' : Option α} {Q : α → Prop} (h : Same x x' Q) : x = x' := by
  obtain ⟨y, hy, hy', hq⟩ := h
  rw [hy, hy']
theorem Same.two {α : Type} {x x' : Option α} {Q : α → Prop} (h : Same x x' Q) : Ret2 x x' fun y y' => y = y' ∧ Q y := by
  obtain ⟨y, hy, hy', hq⟩ := h
  exact ⟨y, y, hy, hy', rfl, hq⟩
theorem Ret2.same {α : Type} {x x' : Option α} {Q : α → Prop} (h : Ret2 x x' fun y y' => y = y' ∧ Q y) : Same x x' Q := by
  obtain ⟨y, _, hy, hy', rfl, hq⟩ := h
  exact ⟨y, hy, hy', hq⟩
theorem Same.pure {α : Type} {y : α} {Q : α → Prop} (h : Q y) : Same (some y) (some y) Q := ⟨y, rfl, rfl, h⟩

/-! ### conditions as propositions -/
theorem ilt_T (a b : Int) : (ilt a b = true) = (a < b) := by simp [ilt]
theorem ilt_F (a b : Int) : (ilt a b = false) = (b ≤ a) := by simp [ilt]
theorem ile_T (a b : Int) : (ile a b = true) = (a ≤ b) := by simp [ile]
theorem ile_F (a b : Int) : (ile a b = false) = (b < a) := by simp [ile]
theorem ieq_T (a b : Int) : (ieq a b = true) = (a = b) := by simp [ieq]
theorem ieq_F (a b : Int) : (ieq a b = false) = (a ≠ b) := by simp [ieq]
theorem bnot_T (b : Bool) : ((!b) = true) = (b = false) := by cases b <;> simp
theorem bnot_F (b : Bool) : ((!b) = false) = (b = true) := by cases b <;> simp
theorem ble_T (a b : Nat) : (Nat.ble a b = true) = (a ≤ b) := by simp
theorem ble_F (a b : Nat) : (Nat.ble a b = false) = (b < a) := by
  rw [eq_iff_iff]
  constructor
  · intro h
    rcases Nat.lt_or_ge b a with h' | h'
    · exact h'
    · rw [Nat.ble_eq_true_of_le h'] at h; cases h
  · intro h
    cases hb : Nat.ble a b
    · rfl
    · exact absurd (Nat.le_of_ble_eq_true hb) (by omega)
theorem nz_T (a : Int) : (nz a = true) = (a ≠ 0) := by simp [nz]
theorem nz_F (a : Int) : (nz a = false) = (a = 0) := by simp [nz]
theorem nonneg_T (a : Int) : (nonneg a = true) = (0 ≤ a) := by simp [nonneg]
theorem nonneg_F (a : Int) : (nonneg a = false) = (a < 0) := by simp [nonneg]

theorem irem_nn {a b : Int} (h : 0 ≤ a) : irem .i64 a b = a % b := Int.tmod_eq_emod_of_nonneg h
/-! ### loops that look at one element after another -/
theorem nat_int_toNat (i : Nat) : ((i : Int)).toNat = i := Int.toNat_natCast i
theorem ix_nat {i n : Nat} (h : i < n) : ix (i : Int) n = some i := by rw [ix_ok (by omega) (by omega), nat_int_toNat]
theorem ilt_nat {i n : Nat} (h : i < n) : ilt (i : Int) (n : Int) = true := ilt_t (by omega)
theorem ilt_self (n : Int) : ilt n n = false := ilt_f (Int.le_refl _)
theorem iadd_nat {i : Nat} (h : i < 4611686018427387904) : iadd .i64 (i : Int) 1 = ((i + 1 : Nat) : Int) := by rw [iadd_ok (by omega) (by omega)]; omega
end Go.Fw
/- Floating point numbers as rational numbers, and how far each operation is from the exact one. No condition. -/
set_option linter.unusedVariables false
set_option linter.unusedSimpArgs false
namespace Go.Fw
open Ieee

/-- Powers of two as rational numbers. -/
def w2 (e : Int) : Rat := (2 : Rat) ^ e

theorem w2_pos (e : Int) : 0 < w2 e := Rat.zpow_pos (by decide)
theorem w2_add (a b : Int) : w2 (a + b) = w2 a * w2 b := Rat.zpow_add (by decide) a b
theorem w2_zero : w2 0 = 1 := by decide +kernel
theorem w2_one : w2 1 = 2 := by decide +kernel
theorem w2_nat (n : Nat) : w2 n = ((2 ^ n : Nat) : Rat) := by
  unfold w2
  rw [Rat.zpow_natCast, Rat.natCast_pow]
  rfl
theorem w2_le {a b : Int} (h : a ≤ b) : w2 a ≤ w2 b := by
  obtain ⟨n, rfl⟩ : ∃ n : Nat, b = a + n := ⟨(b - a).toNat, by omega⟩
  rw [w2_add, w2_nat]
  have h1 : ((1 : Nat) : Rat) ≤ ((2 ^ n : Nat) : Rat) := Rat.natCast_le_natCast.2 (Nat.two_pow_pos n)
  have h2 := Rat.mul_le_mul_of_nonneg_left h1 (Rat.le_of_lt (w2_pos a))
  grind

/-- x is at most e away from a. -/
def Near (x a e : Rat) : Prop := a - e ≤ x ∧ x ≤ a + e

theorem Near.mono {x a e f : Rat} (h : Near x a e) (hf : e ≤ f) : Near x a f := ⟨by have := h.1; grind, by have := h.2; grind⟩
theorem Near.trans {x a b e f : Rat} (h : Near x a e) (h' : Near a b f) : Near x b (e + f) := ⟨by have := h.1; have := h'.1; grind, by have := h.2; have := h'.2; grind⟩
theorem Near.refl {x e : Rat} (h : 0 ≤ e) : Near x x e := ⟨by grind, by grind⟩
theorem Near.neg {x a e : Rat} (h : Near x a e) : Near (-x) (-a) e := ⟨by have := h.2; grind, by have := h.1; grind⟩

/-- the number of a word -/
def R (k : FloatKind) (x : Nat) : Rat := (Z k x : Rat) * w2 k.format.leastPlace

/-! ### rounding -/
theorem cut_err (s : Bool) (n d : Nat) : 2 * (Toward.even.cut s n d * 2 ^ d) ≤ 2 * n + 2 ^ d ∧ 2 * n ≤ 2 * (Toward.even.cut s n d * 2 ^ d) + 2 ^ d := by
  unfold Toward.cut
  dsimp only
  rcases cut_pow n d with ⟨_, e⟩ | ⟨_, e, h1, h2⟩
  · rw [e]
    have hp := Nat.two_pow_pos d
    have h2 := Nat.div_add_mod n (2 ^ d)
    have h3 := Nat.mod_lt n hp
    generalize hq : n / 2 ^ d = q at *
    generalize ht : n % 2 ^ d = t at *
    generalize hP : 2 ^ d = P at *
    rw [Nat.mul_comm] at h2
    by_cases c1 : P < 2 * t
    · have e1 : decide (P < 2 * t) = true := decide_eq_true c1
      rw [e1, Bool.true_or]
      simp only [Bool.toNat_true]
      rw [Nat.add_mul, Nat.one_mul]
      omega
    · have e1 : decide (P < 2 * t) = false := decide_eq_false c1
      rw [e1, Bool.false_or]
      by_cases c2 : P = 2 * t
      · cases hb : (P == 2 * t && q % 2 == 1)
        · simp only [Bool.toNat_false]; rw [Nat.add_zero]; omega
        · simp only [Bool.toNat_true]; rw [Nat.add_mul, Nat.one_mul]; omega
      · have e2 : (P == 2 * t) = false := by rw [beq_eq_false_iff_ne]; exact c2
        rw [e2, Bool.false_and]
        simp only [Bool.toNat_false]
        rw [Nat.add_zero]; omega
  · rw [e, Nat.div_eq_of_lt (by omega), Nat.mod_eq_of_lt (by omega)]
    have a1 : decide (2 ^ (n.log2 + 2) < 2 * n) = false := by simp; omega
    have a2 : (2 ^ (n.log2 + 2) == 2 * n) = false := by rw [beq_eq_false_iff_ne]; omega
    have h3 : 2 ^ (n.log2 + 2) ≤ 2 ^ d := Nat.pow_le_pow_right (by omega) (by omega)
    rw [a1, a2]
    simp
    omega

theorem mag_kept {B p kept : Nat} (hB : 0 < B) (h1 : kept ≤ 2 * B) (h2 : 1 ≤ p → B ≤ kept) : mag B (p * B + kept) = kept * 2 ^ p := by
  rcases Nat.lt_or_ge kept B with h | h
  · have : p = 0 := by omega
    subst this
    unfold mag; simp [h]
  · rcases Nat.lt_or_ge kept (2 * B) with h3 | h3
    · obtain ⟨t, rfl⟩ : ∃ t, kept = B + t := ⟨kept - B, by omega⟩
      rw [show p * B + (B + t) = (p + 1) * B + t by rw [Nat.add_mul]; omega, mag_of (by omega)]
    · have : kept = 2 * B := by omega
      subst this
      rw [show p * B + 2 * B = (p + 1 + 1) * B + 0 by rw [Nat.add_mul, Nat.add_mul, Nat.one_mul, Nat.two_mul]; omega, mag_of (by omega), Nat.pow_succ, Nat.add_zero, Nat.mul_comm 2 B, Nat.mul_assoc, Nat.mul_comm 2]

theorem natR_mul (a b : Nat) : ((a * b : Nat) : Rat) = (a : Rat) * b := Rat.natCast_mul a b

/-- How far a written number is from what is to be written. -/
theorem near_err (k : FloatKind) (s : Bool) (m : Nat) (e : Int) :
    ∃ g, k.format.nearest s m e = k.format.word s (min g k.format.infRung) ∧
      (Near ((mag k.format.binade g : Rat) * w2 k.format.leastPlace) (m * w2 e) ((m : Rat) * w2 e * w2 (-(k.format.fractionBits : Int) - 1)) ∨
        (e < k.format.leastPlace ∧ Near ((mag k.format.binade g : Rat) * w2 k.format.leastPlace) (m * w2 e) (w2 (k.format.leastPlace - 1)))) ∧
      (m < 2 ^ (k.format.fractionBits + 1) → k.format.leastPlace ≤ e → (mag k.format.binade g : Rat) * w2 k.format.leastPlace = m * w2 e) := by
  have hB : 0 < k.format.binade := Nat.two_pow_pos _
  by_cases hm : m = 0
  · subst hm
    refine ⟨0, by unfold Format.nearest; rw [if_pos rfl, Nat.zero_min], .inl ?_, fun _ _ => ?_⟩
    rotate_left
    · have : mag k.format.binade 0 = 0 := by unfold mag; rw [if_pos hB]
      rw [this, show ((0 : Nat) : Rat) = 0 from rfl]; grind
    have : mag k.format.binade 0 = 0 := by unfold mag; rw [if_pos hB]
    rw [this]
    have h0 : ((0 : Nat) : Rat) = 0 := rfl
    rw [h0]
    exact ⟨by grind, by grind⟩
  obtain ⟨p, kept, hn, h1, h2, hk⟩ := near_parts k.format s e hm
  have k1 := kept_le k.format s (m := m) (e := e) (p := p) h1
  rw [← hk] at k1
  have k2 : 1 ≤ p → k.format.binade ≤ kept := fun hp => by rw [hk]; exact kept_ge k.format s hm (h2 hp)
  refine ⟨p * k.format.binade + kept, hn, ?_⟩
  rw [mag_kept hB k1 k2]
  have eq0 : ((kept * 2 ^ p : Nat) : Rat) * w2 k.format.leastPlace = (kept : Rat) * w2 (k.format.leastPlace + p) := by
    rw [natR_mul, w2_add, w2_nat]; grind
  rw [eq0]
  have herr := cut_err s (m <<< (e - (k.format.leastPlace + p)).toNat) (k.format.leastPlace + p - e).toNat
  rw [← hk, Nat.shiftLeft_eq] at herr
  have hup : 0 < w2 (-(k.format.fractionBits : Int) - 1) := w2_pos _
  have hme : 0 ≤ (m : Rat) * w2 e := Rat.mul_nonneg (Rat.natCast_nonneg) (Rat.le_of_lt (w2_pos e))
  rcases Int.lt_or_le e (k.format.leastPlace + p) with hlt | hge
  · -- digits are dropped
    refine ⟨?_, fun hmb hle => ?_⟩
    rotate_left
    · exfalso
      have hlog := (Nat.log2_lt hm).2 hmb
      rcases Nat.eq_zero_or_pos p with hp | hp
      · omega
      · have := h2 hp; omega
    generalize hd : (k.format.leastPlace + p - e).toNat = d at *
    have h0 : (e - (k.format.leastPlace + p)).toNat = 0 := by omega
    rw [h0, Nat.pow_zero, Nat.mul_one] at herr
    have hLp : k.format.leastPlace + p = e + (d : Int) := by omega
    have c1 : (2 : Rat) * ((kept : Rat) * ((2 ^ d : Nat) : Rat)) ≤ 2 * (m : Rat) + ((2 ^ d : Nat) : Rat) := by
      have := Rat.natCast_le_natCast.2 herr.1
      rw [Rat.natCast_add, natR_mul, natR_mul, natR_mul] at this
      exact this
    have c2 : (2 : Rat) * (m : Rat) ≤ 2 * ((kept : Rat) * ((2 ^ d : Nat) : Rat)) + ((2 ^ d : Nat) : Rat) := by
      have := Rat.natCast_le_natCast.2 herr.2
      rw [Rat.natCast_add, natR_mul, natR_mul, natR_mul] at this
      exact this
    have d1 := Rat.mul_le_mul_of_nonneg_right c1 (Rat.le_of_lt (w2_pos e))
    have d2 := Rat.mul_le_mul_of_nonneg_right c2 (Rat.le_of_lt (w2_pos e))
    have hw : w2 (k.format.leastPlace + p) = ((2 ^ d : Nat) : Rat) * w2 e := by rw [hLp, w2_add, w2_nat]; grind
    have hhalf : w2 (k.format.leastPlace + p) = 2 * w2 (k.format.leastPlace + p - 1) := by
      rw [show k.format.leastPlace + (p : Int) = 1 + (k.format.leastPlace + p - 1) by omega, w2_add, w2_one]
      congr 2; omega
    have main : Near ((kept : Rat) * w2 (k.format.leastPlace + p)) (m * w2 e) (w2 (k.format.leastPlace + p - 1)) := by
      rw [hw] at *
      exact ⟨by grind, by grind⟩
    rcases Nat.eq_zero_or_pos p with hp | hp
    · subst hp
      right
      refine ⟨by omega, ?_⟩
      simpa using main
    · left
      refine main.mono ?_
      have h4 := h2 hp
      have h5 : ((2 ^ m.log2 : Nat) : Rat) ≤ (m : Rat) := Rat.natCast_le_natCast.2 (Nat.log2_self_le hm)
      rw [← w2_nat] at h5
      have h6 := Rat.mul_le_mul_of_nonneg_right h5 (Rat.le_of_lt (w2_pos e))
      have h7 := Rat.mul_le_mul_of_nonneg_right h6 (Rat.le_of_lt hup)
      rw [← w2_add, ← w2_add] at h7
      rw [show k.format.leastPlace + (p : Int) - 1 = (m.log2 : Int) + e + (-(k.format.fractionBits : Int) - 1) by omega]
      exact h7
  · -- exact
    have h0 : (k.format.leastPlace + p - e).toNat = 0 := by omega
    rw [h0] at herr
    have hkept : kept = m * 2 ^ (e - (k.format.leastPlace + p)).toNat := by simp only [Nat.pow_zero] at herr; omega
    have : (kept : Rat) * w2 (k.format.leastPlace + p) = m * w2 e := by
      rw [hkept, natR_mul, ← w2_nat, Rat.mul_assoc, ← w2_add]
      congr 2; omega
    rw [this]
    exact ⟨.inl (Near.refl (Rat.mul_nonneg hme (Rat.le_of_lt hup))), fun _ _ => rfl⟩

def top : FloatKind → Int
  | .f32 => 127
  | .f64 => 1023

theorem mag_inf_log (k : FloatKind) (K : Nat) (hK : K = match k with | .f32 => 277 | .f64 => 2098) : mag k.format.binade k.format.infRung = 2 ^ K := by
  have hB : 0 < k.format.binade := Nat.two_pow_pos _
  have h1 : k.format.infRung = (K - k.format.fractionBits) * k.format.binade + k.format.binade := by subst hK; cases k <;> decide
  have h2 : k.format.fractionBits ≤ K := by subst hK; cases k <;> decide
  rw [h1, mag_kept hB (by omega) (fun _ => Nat.le_refl _)]
  unfold Format.binade
  rw [← Nat.pow_add]
  congr 1; omega

theorem mag_inf (k : FloatKind) : (mag k.format.binade k.format.infRung : Rat) * w2 k.format.leastPlace = w2 (top k + 1) := by
  rw [mag_inf_log k _ rfl, ← w2_nat, ← w2_add]
  cases k <;> rfl

theorem small_u (k : FloatKind) : w2 (-(k.format.fractionBits : Int) - 1) ≤ 1 / 16777216 := by
  cases k <;> decide +kernel
theorem small_h (k : FloatKind) : w2 (k.format.leastPlace - 1) ≤ 1 / 16777216 := by
  cases k <;> decide +kernel

/-- the error of one rounding -/
def un (k : FloatKind) : Rat := w2 (-(k.format.fractionBits : Int) - 1)
def et (k : FloatKind) : Rat := w2 (k.format.leastPlace - 1)

theorem un_pos (k : FloatKind) : 0 < un k := w2_pos _
theorem et_pos (k : FloatKind) : 0 < et k := w2_pos _
theorem un32 : un .f32 = 1 / 16777216 := by decide +kernel
theorem un64 : un .f64 = 1 / 9007199254740992 := by decide +kernel
theorem et_le (k : FloatKind) : et k ≤ 1 / 713623846352979940529142984724747568191373312 := by cases k <;> decide +kernel

theorem fin_word {k : FloatKind} {s : Bool} {g : Nat} (hg : g < k.format.infRung) :
    fin k (k.format.word s g) ∧ sg k (k.format.word s g) = s ∧ R k (k.format.word s g) = (if s then -((mag k.format.binade g : Rat) * w2 k.format.leastPlace) else (mag k.format.binade g : Rat) * w2 k.format.leastPlace) := by
  obtain ⟨h1, h2, h3⟩ := word_fin (k := k) (s := s) hg
  refine ⟨h1, h3, ?_⟩
  unfold R Z
  rw [h2, h3]
  cases s
  · simp only [Bool.false_eq_true, if_false]
    rw [Rat.intCast_natCast]
  · simp only [if_true]
    rw [Rat.intCast_neg, Rat.intCast_natCast]
    grind

/-- Rounding: the written number is finite, has the sign, and is near. -/
theorem round_R (k : FloatKind) (s : Bool) (m : Nat) (e : Int) (hb : (m : Rat) * w2 e ≤ w2 (top k)) :
    fin k (k.format.nearest s m e) ∧ sg k (k.format.nearest s m e) = s ∧
      ∃ v, 0 ≤ v ∧ R k (k.format.nearest s m e) = (if s then -v else v) ∧
        (Near v (m * w2 e) ((m : Rat) * w2 e * un k) ∨ (e < k.format.leastPlace ∧ Near v (m * w2 e) (et k))) ∧
        (m < 2 ^ (k.format.fractionBits + 1) → k.format.leastPlace ≤ e → v = m * w2 e) := by
  obtain ⟨g, hn, herr, hex⟩ := near_err k s m e
  have hme : 0 ≤ (m : Rat) * w2 e := Rat.mul_nonneg (Rat.natCast_nonneg) (Rat.le_of_lt (w2_pos e))
  have htop : w2 (top k + 1) = 2 * w2 (top k) := by rw [w2_add, w2_one]; grind
  have h1 : (1 : Rat) ≤ w2 (top k) := by cases k <;> decide +kernel
  have hlt : g < k.format.infRung := by
    refine Nat.lt_of_not_le fun hle => ?_
    have h2 : (mag k.format.binade k.format.infRung : Rat) ≤ (mag k.format.binade g : Rat) := Rat.natCast_le_natCast.2 (mag_mono (Nat.two_pow_pos _) hle)
    have h3 := Rat.mul_le_mul_of_nonneg_right h2 (Rat.le_of_lt (w2_pos k.format.leastPlace))
    rw [mag_inf, htop] at h3
    rcases herr with h | ⟨_, h⟩
    · have h4 := h.2
      have h5 := Rat.mul_le_mul_of_nonneg_left (small_u k) hme
      grind
    · have h4 := h.2
      have h5 := small_h k
      grind
  rw [hn, Nat.min_eq_left (Nat.le_of_lt hlt)]
  obtain ⟨f1, f2, f3⟩ := fin_word (s := s) hlt
  refine ⟨f1, f2, _, Rat.mul_nonneg Rat.natCast_nonneg (Rat.le_of_lt (w2_pos _)), f3, herr, hex⟩

end Go.Fw
/- The operations on floating point numbers, as rational numbers with errors. No condition. -/
set_option linter.unusedVariables false
set_option linter.unusedSimpArgs false
namespace Go.Fw
open Ieee

def sgR (s : Bool) (v : Rat) : Rat := if s then -v else v

theorem sgR_xor (s t : Bool) (v w : Rat) : sgR s v * sgR t w = sgR (s ^^ t) (v * w) := by
  cases s <;> cases t <;> simp [sgR] <;> grind
theorem Near.sg {x a e : Rat} (s : Bool) (h : Near x a e) : Near (sgR s x) (sgR s a) e := by
  cases s
  · exact h
  · exact h.neg

theorem R_V (k : FloatKind) (x : Nat) : R k x = sgR (sg k x) ((V k x : Rat) * w2 k.format.leastPlace) := by
  unfold R Z sgR
  cases sg k x
  · simp only [Bool.false_eq_true, if_false]; rw [Rat.intCast_natCast]
  · simp only [if_true]; rw [Rat.intCast_neg, Rat.intCast_natCast]; grind

theorem R_read {k : FloatKind} {x : Nat} (h : fin k x) : ∃ m a : Nat, k.format.read x = .number (sg k x) m (k.format.leastPlace + a) ∧ R k x = sgR (sg k x) ((m : Rat) * w2 (k.format.leastPlace + a)) := by
  obtain ⟨m, a, hr, e⟩ := fin_read h
  refine ⟨m, a, hr, ?_⟩
  rw [R_V, ← e, natR_mul, w2_add, ← w2_nat]
  congr 1; grind

theorem Z_R {k : FloatKind} {x : Nat} {z : Int} : (Z k x = z) ↔ R k x = (z : Rat) * w2 k.format.leastPlace := by
  unfold R
  constructor
  · intro h; rw [h]
  · intro h
    have hp := w2_pos k.format.leastPlace
    have : (Z k x : Rat) = (z : Rat) := by
      have h1 : ((Z k x : Rat) - z) * w2 k.format.leastPlace = 0 := by grind
      rcases Rat.mul_eq_zero.1 h1 with h2 | h2
      · grind
      · rw [h2] at hp; exact absurd hp (by decide)
    exact Rat.intCast_inj.1 this

/-- Between -M and M. -/
def In (a M : Rat) : Prop := -M ≤ a ∧ a ≤ M

theorem In.sgR {s : Bool} {v M : Rat} (h : In (Fw.sgR s v) M) (_ : 0 ≤ v) : v ≤ M := by
  cases s
  · exact h.2
  · have := h.1; simp [Fw.sgR] at this; grind
theorem In.mono {a M N : Rat} (h : In a M) (hn : M ≤ N) : In a N := ⟨by have := h.1; grind, by have := h.2; grind⟩
theorem In.near {a x M e : Rat} (h : In a M) (hx : Near x a e) : In x (M + e) := ⟨by have := h.1; have := hx.1; grind, by have := h.2; have := hx.2; grind⟩
theorem In.mul {a b A B : Rat} (h : In a A) (h' : In b B) : In (a * b) (A * B) := by
  have h1 := Rat.mul_nonneg (a := A - a) (b := B + b) (by have := h.2; grind) (by have := h'.1; grind)
  have h2 := Rat.mul_nonneg (a := A + a) (b := B - b) (by have := h.1; grind) (by have := h'.2; grind)
  have h3 := Rat.mul_nonneg (a := A - a) (b := B - b) (by have := h.2; grind) (by have := h'.2; grind)
  have h4 := Rat.mul_nonneg (a := A + a) (b := B + b) (by have := h.1; grind) (by have := h'.1; grind)
  exact ⟨by grind, by grind⟩
theorem In.add {a b A B : Rat} (h : In a A) (h' : In b B) : In (a + b) (A + B) := ⟨by have := h.1; have := h'.1; grind, by have := h.2; have := h'.2; grind⟩
theorem In.sub {a b A B : Rat} (h : In a A) (h' : In b B) : In (a - b) (A + B) := ⟨by have := h.1; have := h'.2; grind, by have := h.2; have := h'.1; grind⟩
theorem In.neg {a A : Rat} (h : In a A) : In (-a) A := ⟨by have := h.2; grind, by have := h.1; grind⟩

theorem round_M {k : FloatKind} {s : Bool} {m : Nat} {e : Int} {M : Rat} (hM : (m : Rat) * w2 e ≤ M) (hb : M ≤ w2 (top k)) :
    fin k (k.format.nearest s m e) ∧ sg k (k.format.nearest s m e) = s ∧ Near (R k (k.format.nearest s m e)) (sgR s ((m : Rat) * w2 e)) (M * un k + et k) ∧
      (k.format.leastPlace ≤ e → Near (R k (k.format.nearest s m e)) (sgR s ((m : Rat) * w2 e)) (M * un k)) := by
  obtain ⟨h1, h2, v, h3, h4, h5, _⟩ := round_R k s m e (by grind)
  have hme : 0 ≤ (m : Rat) * w2 e := Rat.mul_nonneg (Rat.natCast_nonneg) (Rat.le_of_lt (w2_pos e))
  have hmu := Rat.mul_le_mul_of_nonneg_right hM (Rat.le_of_lt (un_pos k))
  have hpos := et_pos k
  have hup := un_pos k
  have h0 := Rat.mul_nonneg hme (Rat.le_of_lt hup)
  refine ⟨h1, h2, ?_, fun hl => ?_⟩
  · rw [h4]
    rcases h5 with h | ⟨_, h⟩
    · exact (h.mono (by grind)).sg s
    · exact (h.mono (by grind)).sg s
  · rw [h4]
    rcases h5 with h | ⟨h6, h⟩
    · exact (h.mono hmu).sg s
    · omega

theorem intR_nonneg {z : Int} (h : 0 ≤ z) : ((z.natAbs : Nat) : Rat) = z := by
  rw [← Rat.intCast_natCast, Int.natAbs_of_nonneg h]
theorem intR_neg {z : Int} (h : z < 0) : ((z.natAbs : Nat) : Rat) = -(z : Rat) := by
  rw [← Rat.intCast_natCast, Int.ofNat_natAbs_of_nonpos (Int.le_of_lt h), Rat.intCast_neg]

/-- what a sum is -/
theorem sum_R {k : FloatKind} {z : Int} {M c : Nat} {t : Bool} (h : M * 2 ^ c = z.natAbs) :
    sgR (if z = 0 then t else decide (z < 0)) ((M : Rat) * w2 (k.format.leastPlace + c)) = (z : Rat) * w2 k.format.leastPlace := by
  have h1 : (M : Rat) * w2 (k.format.leastPlace + c) = ((z.natAbs : Nat) : Rat) * w2 k.format.leastPlace := by
    rw [← h, natR_mul, w2_add, ← w2_nat]; grind
  rw [h1]
  by_cases h0 : z = 0
  · subst h0
    have e0 : ((Int.natAbs 0 : Nat) : Rat) = 0 := rfl
    have e1 : ((0 : Int) : Rat) = 0 := rfl
    rw [e0, e1, Rat.zero_mul]
    simp only [if_pos]
    cases t
    · rfl
    · show -(0 : Rat) = 0; grind
  · rw [if_neg h0]
    by_cases hn : z < 0
    · rw [decide_eq_true hn, intR_neg hn]
      show -(-(z : Rat) * _) = _
      grind
    · rw [decide_eq_false hn, intR_nonneg (by omega)]
      rfl

section ops
variable {k : FloatKind} {x y : Nat}

theorem add_R (hx : fin k x) (hy : fin k y) {M : Rat} (h : In (R k x + R k y) M) (hM : M ≤ w2 (top k)) :
    fin k (fadd k x y) ∧ Near (R k (fadd k x y)) (R k x + R k y) (M * un k) := by
  obtain ⟨m, c, h1, h2⟩ := fadd_fin hx hy
  have hz : R k x + R k y = ((Z k x + Z k y : Int) : Rat) * w2 k.format.leastPlace := by
    unfold R; rw [Rat.intCast_add]; grind
  rw [hz] at h ⊢
  have hs := sum_R (k := k) (t := sg k x && sg k y) h2
  rw [← hs] at h ⊢
  have hv : 0 ≤ (m : Rat) * w2 (k.format.leastPlace + c) := Rat.mul_nonneg (Rat.natCast_nonneg) (Rat.le_of_lt (w2_pos _))
  obtain ⟨r1, _, _, r4⟩ := round_M (k := k) (s := if Z k x + Z k y = 0 then sg k x && sg k y else decide (Z k x + Z k y < 0)) (h.sgR hv) hM
  rw [h1]
  exact ⟨r1, r4 (by omega)⟩

theorem sub_R (hx : fin k x) (hy : fin k y) {M : Rat} (h : In (R k x - R k y) M) (hM : M ≤ w2 (top k)) :
    fin k (fsub k x y) ∧ Near (R k (fsub k x y)) (R k x - R k y) (M * un k) := by
  obtain ⟨m, c, h1, h2⟩ := fsub_fin hx hy
  have hz : R k x - R k y = ((Z k x - Z k y : Int) : Rat) * w2 k.format.leastPlace := by
    unfold R; rw [Rat.intCast_sub]; grind
  rw [hz] at h ⊢
  have hs := sum_R (k := k) (t := sg k x && !sg k y) h2
  rw [← hs] at h ⊢
  have hv : 0 ≤ (m : Rat) * w2 (k.format.leastPlace + c) := Rat.mul_nonneg (Rat.natCast_nonneg) (Rat.le_of_lt (w2_pos _))
  obtain ⟨r1, _, _, r4⟩ := round_M (k := k) (s := if Z k x - Z k y = 0 then sg k x && !sg k y else decide (Z k x - Z k y < 0)) (h.sgR hv) hM
  rw [h1]
  exact ⟨r1, r4 (by omega)⟩

theorem fmul_fin (hx : fin k x) (hy : fin k y) : ∃ (m : Nat) (e : Int), fmul k x y = k.format.nearest (sg k x ^^ sg k y) m e ∧ sgR (sg k x ^^ sg k y) ((m : Rat) * w2 e) = R k x * R k y := by
  obtain ⟨m, a, hr, e⟩ := R_read hx
  obtain ⟨n, b, hr', e'⟩ := R_read hy
  refine ⟨m * n, k.format.leastPlace + a + (k.format.leastPlace + b), ?_, ?_⟩
  · unfold fmul fop floatBits Format.mul
    rw [hr, hr']; rfl
  · rw [e, e', sgR_xor, natR_mul, w2_add (k.format.leastPlace + a)]
    congr 1; grind

theorem mul_R (hx : fin k x) (hy : fin k y) {M : Rat} (h : In (R k x * R k y) M) (hM : M ≤ w2 (top k)) :
    fin k (fmul k x y) ∧ Near (R k (fmul k x y)) (R k x * R k y) (M * un k + et k) := by
  obtain ⟨m, e, h1, h2⟩ := fmul_fin hx hy
  rw [← h2] at h ⊢
  have hv : 0 ≤ (m : Rat) * w2 e := Rat.mul_nonneg (Rat.natCast_nonneg) (Rat.le_of_lt (w2_pos _))
  obtain ⟨r1, _, r3, _⟩ := round_M (k := k) (s := sg k x ^^ sg k y) (h.sgR hv) hM
  rw [h1]
  exact ⟨r1, r3⟩

/-! ### exact results -/
theorem round_exact {k : FloatKind} {s : Bool} {m : Nat} {e : Int} {t : Nat} (ht : fin k t) (h : sgR s ((m : Rat) * w2 e) = R k t) :
    fin k (k.format.nearest s m e) ∧ R k (k.format.nearest s m e) = R k t := by
  have hv : 0 ≤ (m : Rat) * w2 e := Rat.mul_nonneg (Rat.natCast_nonneg) (Rat.le_of_lt (w2_pos _))
  have hv2 : 0 ≤ (V k t : Rat) * w2 k.format.leastPlace := Rat.mul_nonneg (Rat.natCast_nonneg) (Rat.le_of_lt (w2_pos _))
  have hval : (m : Rat) * w2 e = (V k t : Rat) * w2 k.format.leastPlace := by
    rw [R_V] at h
    cases s <;> cases sg k t <;> simp [sgR] at h <;> grind
  have hnat : m * 2 ^ (e - k.format.leastPlace).toNat = V k t * 2 ^ (k.format.leastPlace - e).toNat := by
    apply Rat.natCast_inj.1
    rw [natR_mul, natR_mul, ← w2_nat, ← w2_nat]
    rcases Int.le_total e k.format.leastPlace with hl | hl
    · have e1 : ((e - k.format.leastPlace).toNat : Int) = 0 := by omega
      have e2 : ((k.format.leastPlace - e).toNat : Int) = k.format.leastPlace - e := by omega
      rw [e1, e2, w2_zero]
      have hw : w2 k.format.leastPlace = w2 (k.format.leastPlace - e) * w2 e := by rw [← w2_add]; congr 1; omega
      rw [hw] at hval
      have h3 : ((m : Rat) - (V k t : Rat) * w2 (k.format.leastPlace - e)) * w2 e = 0 := by grind
      rcases Rat.mul_eq_zero.1 h3 with h4 | h4
      · grind
      · exact absurd (w2_pos e) (by rw [h4]; decide)
    · have e1 : ((k.format.leastPlace - e).toNat : Int) = 0 := by omega
      have e2 : ((e - k.format.leastPlace).toNat : Int) = e - k.format.leastPlace := by omega
      rw [e1, e2, w2_zero]
      have hw : w2 e = w2 (e - k.format.leastPlace) * w2 k.format.leastPlace := by rw [← w2_add]; congr 1; omega
      rw [hw] at hval
      have h3 : ((m : Rat) * w2 (e - k.format.leastPlace) - (V k t : Rat)) * w2 k.format.leastPlace = 0 := by grind
      rcases Rat.mul_eq_zero.1 h3 with h4 | h4
      · grind
      · exact absurd (w2_pos k.format.leastPlace) (by rw [h4]; decide)
  have ht' : t % k.format.signWeight < k.format.infRung := ht
  have hn := near_eq k.format s (m := m) (e := e) (r := t % k.format.signWeight) (Nat.le_of_lt ht') hnat
  rw [hn]
  obtain ⟨f1, f2, f3⟩ := fin_word (k := k) (s := s) ht'
  refine ⟨f1, ?_⟩
  rw [f3]
  rw [← h, hval]
  rfl

theorem add_E {t : Nat} (hx : fin k x) (hy : fin k y) (ht : fin k t) (h : R k x + R k y = R k t) : fin k (fadd k x y) ∧ R k (fadd k x y) = R k x + R k y := by
  obtain ⟨m, c, h1, h2⟩ := fadd_fin hx hy
  have hz : R k x + R k y = ((Z k x + Z k y : Int) : Rat) * w2 k.format.leastPlace := by
    unfold R; rw [Rat.intCast_add]; grind
  rw [h1, h]
  rw [hz, ← sum_R (k := k) (t := sg k x && sg k y) h2] at h
  exact round_exact ht h

theorem sub_E {t : Nat} (hx : fin k x) (hy : fin k y) (ht : fin k t) (h : R k x - R k y = R k t) : fin k (fsub k x y) ∧ R k (fsub k x y) = R k x - R k y := by
  obtain ⟨m, c, h1, h2⟩ := fsub_fin hx hy
  have hz : R k x - R k y = ((Z k x - Z k y : Int) : Rat) * w2 k.format.leastPlace := by
    unfold R; rw [Rat.intCast_sub]; grind
  rw [h1, h]
  rw [hz, ← sum_R (k := k) (t := sg k x && !sg k y) h2] at h
  exact round_exact ht h

theorem mul_E {t : Nat} (hx : fin k x) (hy : fin k y) (ht : fin k t) (h : R k x * R k y = R k t) : fin k (fmul k x y) ∧ R k (fmul k x y) = R k x * R k y := by
  obtain ⟨m, e, h1, h2⟩ := fmul_fin hx hy
  rw [h1, h]
  rw [← h2] at h
  exact round_exact ht h

end ops

/-! ### numbers that words have: whole numbers with few digits at a place -/
theorem rep_R (k : FloatKind) (n : Int) (e : Int) (hn : n.natAbs < 2 * k.format.binade) (h1 : k.format.leastPlace ≤ e) (h2 : e + k.format.fractionBits + 1 ≤ top k) : ∃ t, fin k t ∧ R k t = (n : Rat) * w2 e := by
  have hv : (n.natAbs : Rat) * w2 e ≤ w2 (top k) := by
    have h3 : (n.natAbs : Rat) ≤ ((2 * k.format.binade : Nat) : Rat) := Rat.natCast_le_natCast.2 (by omega)
    have h4 : ((2 * k.format.binade : Nat) : Rat) = w2 ((k.format.fractionBits + 1 : Nat) : Int) := by
      rw [w2_nat]; congr 1; unfold Format.binade; rw [Nat.pow_succ, Nat.mul_comm]
    rw [h4] at h3
    have h5 := Rat.mul_le_mul_of_nonneg_right h3 (Rat.le_of_lt (w2_pos e))
    rw [← w2_add] at h5
    have h6 : w2 (((k.format.fractionBits + 1 : Nat) : Int) + e) ≤ w2 (top k) := w2_le (by omega)
    grind
  obtain ⟨f1, _, v, _, f3, _, f5⟩ := round_R k (decide (n < 0)) n.natAbs e hv
  refine ⟨_, f1, ?_⟩
  rw [f3, f5 (by rw [Nat.pow_succ, Nat.mul_comm]; exact hn) h1]
  by_cases h0 : n < 0
  · rw [decide_eq_true h0, if_pos rfl, intR_neg h0]; grind
  · rw [decide_eq_false h0, intR_nonneg (by omega)]; rfl

end Go.Fw
/- Quotients, conversions, roots and comparisons, as rational numbers with errors. No condition. -/
set_option linter.unusedVariables false
set_option linter.unusedSimpArgs false
namespace Go.Fw
open Ieee

section ops
variable {k : FloatKind} {x y : Nat}

theorem le_iff_Z {z w : Int} : (z : Rat) * w2 k.format.leastPlace ≤ (w : Rat) * w2 k.format.leastPlace ↔ z ≤ w := by
  rw [← Rat.intCast_le_intCast]
  have hp := w2_pos k.format.leastPlace
  constructor
  · intro h
    refine Rat.not_lt.1 fun hl => ?_
    have := Rat.mul_lt_mul_of_pos_right hl hp
    grind
  · intro h
    exact Rat.mul_le_mul_of_nonneg_right h (Rat.le_of_lt hp)

theorem flt_R (hx : fin k x) (hy : fin k y) : flt k x y = decide (R k x < R k y) := by
  rw [flt_fin hx hy]
  have := le_iff_Z (k := k) (z := Z k y) (w := Z k x)
  by_cases h : Z k x < Z k y
  · rw [decide_eq_true h, decide_eq_true]
    refine Rat.not_le.1 fun hl => ?_
    have := this.1 hl; omega
  · rw [decide_eq_false h, decide_eq_false]
    exact Rat.not_lt.2 (this.2 (by omega))
theorem fgt_R (hx : fin k x) (hy : fin k y) : fgt k x y = decide (R k y < R k x) := by
  rw [fgt_fin hx hy, ← flt_R hy hx, flt_fin hy hx]
theorem fle_R (hx : fin k x) (hy : fin k y) : fle k x y = decide (R k x ≤ R k y) := by
  rw [fle_fin hx hy]
  have := le_iff_Z (k := k) (z := Z k x) (w := Z k y)
  by_cases h : Z k x ≤ Z k y
  · rw [decide_eq_true h]; exact (decide_eq_true (this.2 h)).symm
  · rw [decide_eq_false h]; exact (decide_eq_false (fun hl => h (this.1 hl))).symm
theorem fge_R (hx : fin k x) (hy : fin k y) : fge k x y = decide (R k y ≤ R k x) := by
  rw [fge_fin hx hy, ← fle_R hy hx, fle_fin hy hx]
theorem feq_R (hx : fin k x) (hy : fin k y) : feq k x y = decide (R k x = R k y) := by
  rw [feq_fin hx hy]
  by_cases h : Z k x = Z k y
  · rw [decide_eq_true h, decide_eq_true]; unfold R; rw [h]
  · rw [decide_eq_false h, decide_eq_false]
    intro hl
    exact h (Z_R.2 hl)

theorem sgR_sgR (s : Bool) (v : Rat) : sgR s (sgR s v) = v := by cases s <;> simp [sgR]
theorem sgR_eq {s t : Bool} {Q v w : Rat} (h : Q * sgR t w = sgR s v) : sgR (s ^^ t) Q * w = v := by
  cases s <;> cases t <;> simp [sgR] at h ⊢ <;> grind

theorem digits_near {X n d t : Nat} (hn : n ≠ 0) (hd : d = X / n) (ht : t = (X % n != 0).toNat) : 2 * X ≤ (2 * d + t) * n + n ∧ (2 * d + t) * n ≤ 2 * X + n := by
  have hdm := Nat.div_add_mod X n
  have hlt := Nat.mod_lt X (Nat.pos_of_ne_zero hn)
  rw [← hd, Nat.mul_comm] at hdm
  rw [Nat.add_mul, Nat.mul_assoc]
  generalize d * n = P at *
  by_cases hz : X % n = 0
  · have : t = 0 := by rw [ht, hz]; rfl
    subst this
    omega
  · have : t = 1 := by rw [ht]; simp [hz]
    subst this
    omega

/-- The quotient before it is rounded: one digit more than is kept, and what is left over. -/
theorem fdiv_parts (hx : fin k x) (hy : fin k y) (h0 : R k y ≠ 0) {Q M : Rat} (hQ : Q * R k y = R k x) (hM : In Q M) :
    ∃ (m : Nat) (e : Int), fdiv k x y = k.format.nearest (sg k x ^^ sg k y) m e ∧ 0 ≤ (m : Rat) * w2 e ∧ Near (sgR (sg k x ^^ sg k y) ((m : Rat) * w2 e)) Q (M * un k / 2) := by
  obtain ⟨m, a, hr, e⟩ := R_read hx
  obtain ⟨n, b, hr', e'⟩ := R_read hy
  have hn : n ≠ 0 := by
    rintro rfl
    apply h0
    rw [e']
    have e0 : ((0 : Nat) : Rat) = 0 := rfl
    rw [e0, Rat.zero_mul]
    cases sg k y <;> simp [sgR]
  have hM0 : 0 ≤ M := by have := hM.1; have := hM.2; grind
  refine ⟨2 * (m <<< (k.format.fractionBits + 2 + n.log2 - m.log2) / n) + (m <<< (k.format.fractionBits + 2 + n.log2 - m.log2) % n != 0).toNat, k.format.leastPlace + a - (k.format.leastPlace + b) - (k.format.fractionBits + 2 + n.log2 - m.log2 : Nat) - 1, ?_, Rat.mul_nonneg Rat.natCast_nonneg (Rat.le_of_lt (w2_pos _)), ?_⟩
  · unfold fdiv fop floatBits Format.div
    rw [hr, hr']
    simp only [Datum.quotient, hn, if_false]
    rfl
  rw [Nat.shiftLeft_eq]
  have hnR : (0 : Rat) < n := by
    have : ((0 : Nat) : Rat) < (n : Rat) := Rat.natCast_lt_natCast.2 (Nat.pos_of_ne_zero hn)
    exact this
  have hMu := Rat.mul_nonneg hM0 (Rat.le_of_lt (un_pos k))
  by_cases hm : m = 0
  · subst hm
    have e0 : ((0 : Nat) : Rat) = 0 := rfl
    have hQ0 : Q = 0 := by
      have hx0 : R k x = 0 := by rw [e, e0, Rat.zero_mul]; cases sg k x <;> simp [sgR]
      rw [hx0] at hQ
      rcases Rat.mul_eq_zero.1 hQ with h | h
      · exact h
      · exact absurd h h0
    have ed : 2 * (0 * 2 ^ (k.format.fractionBits + 2 + n.log2 - Nat.log2 0) / n) + (0 * 2 ^ (k.format.fractionBits + 2 + n.log2 - Nat.log2 0) % n != 0).toNat = 0 := by
      rw [Nat.zero_mul, Nat.zero_div, Nat.zero_mod]; rfl
    rw [ed, e0, Rat.zero_mul, hQ0]
    have : sgR (sg k x ^^ sg k y) (0 : Rat) = 0 := by cases (sg k x ^^ sg k y) <;> simp [sgR]
    rw [this]
    exact Near.refl (by grind)
  -- many digits
  have hbig : 2 ^ (k.format.fractionBits + 1) * n ≤ m * 2 ^ (k.format.fractionBits + 2 + n.log2 - m.log2) := by
    have h3 : 2 ^ m.log2 * 2 ^ (k.format.fractionBits + 2 + n.log2 - m.log2) ≤ m * 2 ^ (k.format.fractionBits + 2 + n.log2 - m.log2) := Nat.mul_le_mul_right _ (Nat.log2_self_le hm)
    rw [← Nat.pow_add] at h3
    have h4 : n ≤ 2 ^ (n.log2 + 1) := Nat.le_of_lt Nat.lt_log2_self
    have h5 : 2 ^ (k.format.fractionBits + 1) * n ≤ 2 ^ (k.format.fractionBits + 1) * 2 ^ (n.log2 + 1) := Nat.mul_le_mul_left _ h4
    rw [← Nat.pow_add] at h5
    have h6 : 2 ^ (k.format.fractionBits + 1 + (n.log2 + 1)) ≤ 2 ^ (m.log2 + (k.format.fractionBits + 2 + n.log2 - m.log2)) := Nat.pow_le_pow_right (by omega) (by omega)
    omega
  generalize hmore : k.format.fractionBits + 2 + n.log2 - m.log2 = more at *
  obtain ⟨d1, d2⟩ := digits_near (X := m * 2 ^ more) (n := n) hn rfl rfl
  generalize hX : m * 2 ^ more = X at *
  generalize hD : 2 * (X / n) + (X % n != 0).toNat = D at *
  clear hr hr' hx hy hD
  rw [e, e'] at hQ
  have hq := sgR_eq hQ
  have hQq : Q = sgR (sg k x ^^ sg k y) (sgR (sg k x ^^ sg k y) Q) := (sgR_sgR _ _).symm
  have hqM : In (sgR (sg k x ^^ sg k y) Q) M := by
    cases (sg k x ^^ sg k y)
    · exact hM
    · exact hM.neg
  rw [hQq]
  refine Near.sg _ ?_
  generalize sgR (sg k x ^^ sg k y) Q = q at *
  clear hQ hQq e e' h0 hM
  have hwb := w2_pos (k.format.leastPlace + b)
  have hwp := w2_pos (k.format.leastPlace + a - (k.format.leastPlace + b) - (more : Nat) - 1)
  have hwE : w2 (k.format.leastPlace + a) = 2 * w2 (k.format.leastPlace + a - (k.format.leastPlace + b) - (more : Nat) - 1) * (2 ^ more : Nat) * w2 (k.format.leastPlace + b) := by
    rw [← w2_nat, ← w2_one, ← w2_add, ← w2_add, ← w2_add]; congr 1; omega
  generalize w2 (k.format.leastPlace + a - (k.format.leastPlace + b) - (more : Nat) - 1) = w at *
  generalize w2 (k.format.leastPlace + b) = v at *
  have hqX : q * n = 2 * X * w := by
    have h1 : (q * n - 2 * X * w) * v = 0 := by
      rw [← hX, natR_mul]
      grind
    rcases Rat.mul_eq_zero.1 h1 with h2 | h2
    · grind
    · rw [h2] at hwb; exact absurd hwb (by decide)
  have c1 : (2 : Rat) * X ≤ (D : Rat) * n + n := by
    have := Rat.natCast_le_natCast.2 d1
    rw [Rat.natCast_add, natR_mul, natR_mul] at this
    exact this
  have c2 : (D : Rat) * n ≤ 2 * X + n := by
    have := Rat.natCast_le_natCast.2 d2
    rw [Rat.natCast_add, natR_mul, natR_mul] at this
    exact this
  have c3 : ((2 ^ (k.format.fractionBits + 1) : Nat) : Rat) * n ≤ X := by
    have := Rat.natCast_le_natCast.2 hbig
    rw [natR_mul] at this
    exact this
  have hcancel : ∀ u v : Rat, u * n ≤ v * n → u ≤ v := fun u v h => by
    refine Rat.not_lt.1 fun hl => ?_
    have := Rat.mul_lt_mul_of_pos_right hl hnR
    grind
  have hwn := Rat.le_of_lt hwp
  have k1 := hcancel q (D * w + w) (by have := Rat.mul_le_mul_of_nonneg_right c1 hwn; grind)
  have k2 := hcancel (D * w) (q + w) (by have := Rat.mul_le_mul_of_nonneg_right c2 hwn; grind)
  have k3 := hcancel (2 * (((2 ^ (k.format.fractionBits + 1) : Nat) : Rat) * w)) q (by have := Rat.mul_le_mul_of_nonneg_right c3 hwn; grind)
  have hu : un k * ((2 ^ (k.format.fractionBits + 1) : Nat) : Rat) = 1 := by
    unfold un
    rw [← w2_nat, ← w2_add, show -(k.format.fractionBits : Int) - 1 + ((k.format.fractionBits + 1 : Nat) : Int) = 0 by omega, w2_zero]
  have k4 : w ≤ M * un k / 2 := by
    have h1 := Rat.mul_le_mul_of_nonneg_right k3 (Rat.le_of_lt (un_pos k))
    have h2 := Rat.mul_le_mul_of_nonneg_right hqM.2 (Rat.le_of_lt (un_pos k))
    have h3 : 2 * (((2 ^ (k.format.fractionBits + 1) : Nat) : Rat) * w) * un k = 2 * w := by
      have : 2 * (((2 ^ (k.format.fractionBits + 1) : Nat) : Rat) * w) * un k = 2 * w * (un k * ((2 ^ (k.format.fractionBits + 1) : Nat) : Rat)) := by grind
      rw [this, hu]; grind
    grind
  exact ⟨by grind, by grind⟩

theorem div_R (hx : fin k x) (hy : fin k y) (h0 : R k y ≠ 0) {Q M : Rat} (hQ : Q * R k y = R k x) (hM : In Q M) (hT : 2 * M ≤ w2 (top k)) :
    fin k (fdiv k x y) ∧ Near (R k (fdiv k x y)) Q (8 / 5 * M * un k + et k) := by
  obtain ⟨m, e, h1, h2, h3⟩ := fdiv_parts hx hy h0 hQ hM
  have hM0 : 0 ≤ M := by have := hM.1; have := hM.2; grind
  have hu : un k ≤ 1 / 10 := by cases k <;> decide +kernel
  have hMu := Rat.mul_le_mul_of_nonneg_left hu hM0
  have hin := (hM.near h3).sgR h2
  have h21 : M + M * un k / 2 ≤ 21 / 20 * M := by grind
  obtain ⟨r1, _, r3, _⟩ := round_M (k := k) (s := sg k x ^^ sg k y) (m := m) (e := e) (M := 21 / 20 * M) (by grind) (by grind)
  rw [h1]
  have hup := un_pos k
  have hMM := Rat.mul_nonneg hM0 (Rat.le_of_lt hup)
  exact ⟨r1, (r3.trans h3).mono (by grind)⟩

end ops
end Go.Fw
/- Conversions and roots, as rational numbers with errors. No condition. -/
set_option linter.unusedVariables false
set_option linter.unusedSimpArgs false
namespace Go.Fw
open Ieee

theorem wide_R {x : Nat} (hx : x < 2 ^ 32) (hf : fin .f32 x) : fin .f64 (fwide x) ∧ R .f64 (fwide x) = R .f32 x := by
  obtain ⟨K, hK⟩ : ∃ K : Nat, K = 925 := ⟨_, rfl⟩
  obtain ⟨h1, h2⟩ := wide_Z hK hx hf
  refine ⟨h1, ?_⟩
  unfold R
  rw [h2, Rat.intCast_mul, Rat.intCast_natCast, ← w2_nat, Rat.mul_assoc, ← w2_add]
  congr 2
  subst hK
  rfl

theorem conv_any {w : Nat} (hw : fin .f64 w) {t : Nat} {s : Bool} {m : Nat} {e : Int} (hr : FloatKind.f64.format.read w = .number s m e) (hn : FloatKind.f32.format.nearest s m e = t) (ht : fin .f32 t) :
    fconv .f64 .f32 w = some t := narrow_num hr hn ht

theorem round_zero (k : FloatKind) (s : Bool) (e : Int) : R k (k.format.nearest s 0 e) = 0 := by
  have ht : k.format.nearest s 0 e = k.format.word s 0 := by unfold Format.nearest; rw [if_pos rfl]
  obtain ⟨_, _, g3⟩ := fin_word (k := k) (s := s) (g := 0) (by cases k <;> decide)
  have hmag : mag k.format.binade 0 = 0 := by unfold mag; rw [if_pos]; exact Nat.two_pow_pos _
  have e0 : ((0 : Nat) : Rat) = 0 := rfl
  rw [ht, g3, hmag, e0, Rat.zero_mul]
  cases s <;> simp

theorem conv_R {w : Nat} (hw : fin .f64 w) {M : Rat} (h : In (R .f64 w) M) (hM : M ≤ w2 127) :
    ∃ r, fconv .f64 .f32 w = some r ∧ fin .f32 r ∧ sg .f32 r = sg .f64 w ∧ Near (R .f32 r) (R .f64 w) (M * un .f32 + et .f32) ∧ (0 ≤ R .f64 w → 0 ≤ R .f32 r) := by
  obtain ⟨m, a, hr, e⟩ := R_read hw
  rw [e] at h ⊢
  have hv : 0 ≤ (m : Rat) * w2 (FloatKind.f64.format.leastPlace + a) := Rat.mul_nonneg (Rat.natCast_nonneg) (Rat.le_of_lt (w2_pos _))
  obtain ⟨r1, r2, r3, _⟩ := round_M (k := .f32) (s := sg .f64 w) (h.sgR hv) hM
  refine ⟨_, conv_any hw hr rfl r1, r1, r2, r3, fun hp => ?_⟩
  by_cases hm : m = 0
  · subst hm; rw [round_zero]; decide
  have hmR : (0 : Rat) < m := by
    have : ((0 : Nat) : Rat) < (m : Rat) := Rat.natCast_lt_natCast.2 (Nat.pos_of_ne_zero hm)
    exact this
  have hpos := Rat.mul_pos hmR (w2_pos (FloatKind.f64.format.leastPlace + a))
  obtain ⟨_, _, v, q3, q4, _⟩ := round_R .f32 (sg .f64 w) m (FloatKind.f64.format.leastPlace + a) (by have := h.sgR hv; show _ ≤ w2 127; grind)
  rw [q4]
  cases hs : sg .f64 w
  · simpa using q3
  · rw [hs] at hp; simp [sgR] at hp; grind

/-! ### square roots -/
theorem sq_le {a b : Rat} (ha : 0 ≤ a) (h : a ≤ b) : a * a ≤ b * b := by
  have h1 := Rat.mul_le_mul_of_nonneg_right h ha
  have h2 := Rat.mul_le_mul_of_nonneg_left h (Rat.le_trans ha h)
  grind
theorem le_of_sq {a b : Rat} (hb : 0 ≤ b) (h : a * a ≤ b * b) : a ≤ b := by
  refine Rat.not_lt.1 fun hl => ?_
  have h1 := Rat.mul_lt_mul_of_pos_right hl (show 0 < a by grind)
  have h2 := Rat.mul_le_mul_of_nonneg_left (Rat.le_of_lt hl) hb
  grind

end Go.Fw
/- Exact arithmetic: whole numbers at a place. No condition. -/
set_option linter.unusedVariables false
set_option linter.unusedSimpArgs false
namespace Go.Fw
open Ieee

theorem fneg_R {k : FloatKind} {x : Nat} (hx : okF k x) (hf : fin k x) : fin k (fneg k x) ∧ R k (fneg k x) = -R k x := by
  have hn := fin_nan hf
  have hn2 : isNan k (Op.negFloat k x) = false := by rw [isNan_neg]; exact hn
  have e : fneg k x = Op.negFloat k x := by unfold fneg; rw [canon_num hn2]
  have hm : Op.negFloat k x % k.format.signWeight = x % k.format.signWeight := neg_mod k.format x
  have hs : sg k (Op.negFloat k x) = !sg k x := by
    have hlt := hx.lt
    unfold sg Op.negFloat
    have h1 : ∀ w : Nat, x < 2 ^ (w + 1) → ((x ^^^ 2 ^ w) / 2 ^ w % 2 == 1) = !(x / 2 ^ w % 2 == 1) := fun w hw => by
      have : (x ^^^ 2 ^ w) / 2 ^ w = x / 2 ^ w ^^^ 1 := by
        rw [← Nat.shiftRight_eq_div_pow, ← Nat.shiftRight_eq_div_pow, Nat.shiftRight_xor_distrib, Nat.shiftRight_eq_div_pow (2 ^ w), Nat.div_self (Nat.two_pow_pos w)]
      rw [this]
      have h2 : x / 2 ^ w < 2 := Nat.div_lt_of_lt_mul (by rw [Nat.pow_succ] at hw; exact hw)
      generalize x / 2 ^ w = q at *
      have : q = 0 ∨ q = 1 := by omega
      rcases this with h | h <;> rw [h] <;> rfl
    cases k
    · exact h1 31 hlt
    · exact h1 63 hlt
  rw [e]
  refine ⟨by unfold fin; rw [hm]; exact hf, ?_⟩
  rw [R_V, R_V, hs]
  have : V k (Op.negFloat k x) = V k x := by unfold V; rw [hm]
  rw [this]
  cases sg k x
  · rfl
  · simp [sgR]

/-- x is n / 2 ^ d, and n is not greater than N. -/
def Ev (x : Nat) (n : Int) (d N : Nat) : Prop := fin .f32 x ∧ R .f32 x = (n : Rat) * w2 (-(d : Int)) ∧ n.natAbs ≤ N

theorem Ev.rep {n : Int} {d N : Nat} (h : n.natAbs ≤ N) (hN : N < 16777216) (hd : d ≤ 149) : ∃ t, fin .f32 t ∧ R .f32 t = (n : Rat) * w2 (-(d : Int)) :=
  rep_R .f32 n (-(d : Int)) (by have : 2 * FloatKind.f32.format.binade = 16777216 := rfl
                                omega) (by have : FloatKind.f32.format.leastPlace = -149 := rfl
                                           omega) (by have : FloatKind.f32.format.fractionBits = 23 := rfl
                                                      have : top .f32 = 127 := rfl
                                                      omega)

theorem Ev.add {x y : Nat} {n m : Int} {d N M : Nat} (hx : Ev x n d N) (hy : Ev y m d M) (hN : N + M < 16777216) (hd : d ≤ 149) : Ev (fadd .f32 x y) (n + m) d (N + M) := by
  have hb : (n + m).natAbs ≤ N + M := by have := hx.2.2; have := hy.2.2; omega
  obtain ⟨t, t1, t2⟩ := Ev.rep (d := d) hb hN hd
  have e : R .f32 x + R .f32 y = ((n + m : Int) : Rat) * w2 (-(d : Int)) := by rw [hx.2.1, hy.2.1, Rat.intCast_add]; grind
  obtain ⟨h1, h2⟩ := add_E hx.1 hy.1 t1 (by rw [e, t2])
  exact ⟨h1, by rw [h2, e], hb⟩
theorem Ev.sub {x y : Nat} {n m : Int} {d N M : Nat} (hx : Ev x n d N) (hy : Ev y m d M) (hN : N + M < 16777216) (hd : d ≤ 149) : Ev (fsub .f32 x y) (n - m) d (N + M) := by
  have hb : (n - m).natAbs ≤ N + M := by have := hx.2.2; have := hy.2.2; omega
  obtain ⟨t, t1, t2⟩ := Ev.rep (d := d) hb hN hd
  have e : R .f32 x - R .f32 y = ((n - m : Int) : Rat) * w2 (-(d : Int)) := by rw [hx.2.1, hy.2.1, Rat.intCast_sub]; grind
  obtain ⟨h1, h2⟩ := sub_E hx.1 hy.1 t1 (by rw [e, t2])
  exact ⟨h1, by rw [h2, e], hb⟩
theorem Ev.mul {x y : Nat} {n m : Int} {d e N M : Nat} (hx : Ev x n d N) (hy : Ev y m e M) (hN : N * M < 16777216) (hd : d + e ≤ 149) : Ev (fmul .f32 x y) (n * m) (d + e) (N * M) := by
  have hb : (n * m).natAbs ≤ N * M := by rw [Int.natAbs_mul]; exact Nat.mul_le_mul hx.2.2 hy.2.2
  obtain ⟨t, t1, t2⟩ := Ev.rep (d := d + e) hb hN hd
  have ee : R .f32 x * R .f32 y = ((n * m : Int) : Rat) * w2 (-((d + e : Nat) : Int)) := by
    rw [hx.2.1, hy.2.1, Rat.intCast_mul, show -((d + e : Nat) : Int) = -(d : Int) + -(e : Int) by omega, w2_add]; grind
  obtain ⟨h1, h2⟩ := mul_E hx.1 hy.1 t1 (by rw [ee, t2])
  exact ⟨h1, by rw [h2, ee], hb⟩
theorem Ev.up {x : Nat} {n : Int} {d N : Nat} (k : Nat) (h : Ev x n d N) : Ev x (n * ((2 ^ k : Nat) : Int)) (d + k) (N * 2 ^ k) := by
  refine ⟨h.1, ?_, ?_⟩
  · rw [h.2.1, Rat.intCast_mul, Rat.intCast_natCast, ← w2_nat, show -(d : Int) = (k : Int) + -((d + k : Nat) : Int) by omega, w2_add]; grind
  · rw [Int.natAbs_mul, Int.natAbs_natCast]; exact Nat.mul_le_mul_right _ h.2.2
theorem Ev.neg {x : Nat} {n : Int} {d N : Nat} (hx : okF .f32 x) (h : Ev x n d N) : Ev (fneg .f32 x) (-n) d N := by
  obtain ⟨h1, h2⟩ := fneg_R hx h.1
  exact ⟨h1, by rw [h2, h.2.1, Rat.intCast_neg]; grind, by have := h.2.2; omega⟩
theorem Ev.cast {x : Nat} {n m : Int} {d N : Nat} (h : Ev x n d N) (e : n = m) : Ev x m d N := e ▸ h
theorem Ev.feq {x y : Nat} {n : Int} {d N M : Nat} (hx : Ev x n d N) (hy : Ev y n d M) : Fw.feq .f32 x y = true := by
  rw [feq_R hx.1 hy.1, hx.2.1, hy.2.1]; exact decide_eq_true rfl
/-- A word is known by its number. -/
theorem R_inj {x y : Nat} (hx : x < 2 ^ 32) (hy : y < 2 ^ 32) (fx : fin .f32 x) (fy : fin .f32 y) (h : R .f32 x = R .f32 y) (h0 : R .f32 y ≠ 0) : x = y := by
  have hz : Z .f32 x = Z .f32 y := Z_R.2 h
  have hz0 : Z .f32 y ≠ 0 := by
    intro h1
    apply h0
    unfold R
    rw [h1]
    have : ((0 : Int) : Rat) = 0 := rfl
    rw [this]; grind
  have hV : V .f32 x = V .f32 y := by rw [← Z_abs, ← Z_abs, hz]
  have hV0 : V .f32 y ≠ 0 := by rw [← Z_abs]; omega
  have hs : sg .f32 x = sg .f32 y := by
    have h1 := Z_pos (k := .f32) (x := x) (by rw [hV]; exact hV0)
    have h2 := Z_pos (k := .f32) (x := y) hV0
    rw [hz] at h1
    cases hsx : sg .f32 x <;> cases hsy : sg .f32 y <;> simp_all
  have hm : x % FloatKind.f32.format.signWeight = y % FloatKind.f32.format.signWeight := by
    unfold V at hV
    have hB : 0 < FloatKind.f32.format.binade := Nat.two_pow_pos _
    rcases Nat.lt_trichotomy (x % FloatKind.f32.format.signWeight) (y % FloatKind.f32.format.signWeight) with h1 | h1 | h1
    · have := (mag_lt_iff hB).2 h1; omega
    · exact h1
    · have := (mag_lt_iff hB).2 h1; omega
  rw [← word_self (k := .f32) hx, ← word_self (k := .f32) hy, hs, hm]

end Go.Fw
/- Numbers of single precision that are near to rational ones. No condition. -/
set_option linter.unusedVariables false
set_option linter.unusedSimpArgs false
namespace Go.Fw
open Ieee

def u32 : Rat := 1 / 16777216
def e32 : Rat := 1 / 713623846352979940529142984724747568191373312

/-- x is a finite number, at most e away from a. -/
def Ap (x : Nat) (a e : Rat) : Prop := fin .f32 x ∧ Near (R .f32 x) a e

theorem Ap.mono {x : Nat} {a e f : Rat} (h : Ap x a e) (hf : e ≤ f) : Ap x a f := ⟨h.1, h.2.mono hf⟩
theorem Ap.cast {x : Nat} {a b e : Rat} (h : Ap x a e) (hf : a = b) : Ap x b e := hf ▸ h
theorem Ap.self {x : Nat} (h : fin .f32 x) : Ap x (R .f32 x) 0 := ⟨h, Near.refl (by decide)⟩
theorem Ap.inn {x : Nat} {a e A : Rat} (h : Ap x a e) (hA : In a A) : In (R .f32 x) (A + e) := hA.near h.2

def big32 : Rat := 1329227995784915872903807060280344576
theorem big_top : big32 ≤ w2 (top .f32) := by decide +kernel

section
variable {x y : Nat} {a b e f A B M : Rat}

theorem Ap.add (hx : Ap x a e) (hy : Ap y b f) (hM : In (a + b) M) (hb : M + e + f ≤ big32) : Ap (fadd .f32 x y) (a + b) (e + f + (M + e + f) * u32) := by
  have hn : Near (R .f32 x + R .f32 y) (a + b) (e + f) := ⟨by have := hx.2.1; have := hy.2.1; grind, by have := hx.2.2; have := hy.2.2; grind⟩
  have hin := hM.near hn
  obtain ⟨h1, h2⟩ := add_R hx.1 hy.1 (M := M + e + f) (hin.mono (by grind)) (Rat.le_trans hb big_top)
  rw [un32] at h2
  exact ⟨h1, (h2.trans hn).mono (by unfold u32; grind)⟩
theorem Ap.sub (hx : Ap x a e) (hy : Ap y b f) (hM : In (a - b) M) (hb : M + e + f ≤ big32) : Ap (fsub .f32 x y) (a - b) (e + f + (M + e + f) * u32) := by
  have hn : Near (R .f32 x - R .f32 y) (a - b) (e + f) := ⟨by have := hx.2.1; have := hy.2.2; grind, by have := hx.2.2; have := hy.2.1; grind⟩
  have hin := hM.near hn
  obtain ⟨h1, h2⟩ := sub_R hx.1 hy.1 (M := M + e + f) (hin.mono (by grind)) (Rat.le_trans hb big_top)
  rw [un32] at h2
  exact ⟨h1, (h2.trans hn).mono (by unfold u32; grind)⟩
theorem near_mul (hx : Near a b e) {c d : Rat} (hy : Near c d f) (hA : In b A) (hB : In d B) : Near (a * c) (b * d) (A * f + B * e + e * f) := by
  have h1 : In (a - b) e := ⟨by have := hx.1; grind, by have := hx.2; grind⟩
  have h2 : In (c - d) f := ⟨by have := hy.1; grind, by have := hy.2; grind⟩
  have h3 := hA.mul h2
  have h4 := h1.mul hB
  have h5 := h1.mul h2
  exact ⟨by have := h3.1; have := h4.1; have := h5.1; grind, by have := h3.2; have := h4.2; have := h5.2; grind⟩
theorem Ap.mul (hx : Ap x a e) (hy : Ap y b f) (hA : In a A) (hB : In b B) (hM : In (a * b) M) (hb : M + (A * f + B * e + e * f) ≤ big32) :
    Ap (fmul .f32 x y) (a * b) (A * f + B * e + e * f + (M + (A * f + B * e + e * f)) * u32 + e32) := by
  have hn := near_mul hx.2 hy.2 hA hB
  have hin := hM.near hn
  obtain ⟨h1, h2⟩ := mul_R hx.1 hy.1 hin (Rat.le_trans hb big_top)
  rw [un32] at h2
  have := et_le .f32
  exact ⟨h1, (h2.trans hn).mono (by unfold u32 e32; grind)⟩
end

theorem mant32 {x : Nat} (hf : fin .f32 x) : ∃ m a : Nat, R .f32 x = sgR (sg .f32 x) ((m : Rat) * w2 (-149 + a)) ∧ m < 2 ^ 24 ∧ (a = 0 ∨ 2 ^ 23 ≤ m) ∧ a ≤ 253 := by
  have hB : FloatKind.f32.format.binade = 2 ^ 23 := rfl
  have hI : FloatKind.f32.format.infRung = 255 * FloatKind.f32.format.binade := rfl
  have hL : FloatKind.f32.format.leastPlace = -149 := rfl
  obtain ⟨m, a, hr, e⟩ := R_read hf
  refine ⟨m, a, e, ?_⟩
  rcases read_cases FloatKind.f32.format x with ⟨h1, h2⟩ | ⟨h0, h1, h2⟩ | ⟨_, h2⟩ | ⟨_, t, h2⟩
  · rw [hr] at h2
    simp only [Datum.number.injEq] at h2
    omega
  · rw [hr] at h2
    simp only [Datum.number.injEq] at h2
    have hB0 : 0 < FloatKind.f32.format.binade := Nat.two_pow_pos _
    have h3 := Nat.mod_lt (x % FloatKind.f32.format.signWeight) hB0
    have h4 : x % FloatKind.f32.format.signWeight / FloatKind.f32.format.binade < 255 := Nat.div_lt_of_lt_mul (by rw [Nat.mul_comm, ← hI]; exact h1)
    omega
  · rw [hr] at h2; cases h2
  · rw [hr] at h2; cases h2

/-- Doubling is exact. -/
theorem double_E {x : Nat} (hf : fin .f32 x) (h : In (R .f32 x) big32) : fin .f32 (fmul .f32 x 1073741824) ∧ R .f32 (fmul .f32 x 1073741824) = R .f32 x * 2 := by
  obtain ⟨m, a, e, h1, h2, h3⟩ := mant32 hf
  have two : fin .f32 1073741824 ∧ R .f32 1073741824 = 2 := by
    constructor
    · show 1073741824 % FloatKind.f32.format.signWeight < FloatKind.f32.format.infRung; decide
    · decide +kernel
  have ha : a ≤ 250 := by
    refine Nat.le_of_not_lt fun hl => ?_
    have h4 : 2 ^ 23 ≤ m := by omega
    have h5 : ((2 ^ 23 : Nat) : Rat) ≤ (m : Rat) := Rat.natCast_le_natCast.2 h4
    rw [← w2_nat] at h5
    have h6 := Rat.mul_le_mul_of_nonneg_right h5 (Rat.le_of_lt (w2_pos (-149 + (a : Int))))
    rw [← w2_add] at h6
    have h7 : w2 121 ≤ w2 ((23 : Nat) + (-149 + (a : Int))) := w2_le (by omega)
    have h8 : big32 < w2 121 := by decide +kernel
    rw [e] at h
    have h9 := h.sgR (Rat.mul_nonneg Rat.natCast_nonneg (Rat.le_of_lt (w2_pos _)))
    grind
  obtain ⟨t, t1, t2⟩ := rep_R .f32 (if sg .f32 x then -(m : Int) else m) (-149 + a + 1) (by
      have : 2 * FloatKind.f32.format.binade = 2 ^ 24 := rfl
      split <;> omega) (by
      have : FloatKind.f32.format.leastPlace = -149 := rfl
      omega) (by
      have : FloatKind.f32.format.fractionBits = 23 := rfl
      have : top .f32 = 127 := rfl
      omega)
  have ht : R .f32 x * R .f32 1073741824 = R .f32 t := by
    rw [two.2, e, t2, w2_add (-149 + (a : Int)) 1, w2_one]
    cases sg .f32 x
    · simp only [sgR, Bool.false_eq_true, if_false, Rat.intCast_natCast]; grind
    · simp only [sgR, if_true, Rat.intCast_neg, Rat.intCast_natCast]; grind
  obtain ⟨r1, r2⟩ := mul_E hf two.1 t1 ht
  exact ⟨r1, by rw [r2, two.2]⟩

theorem Ap.double {x : Nat} {a e A : Rat} (h : Ap x a e) (hA : In a A) (hb : A + e ≤ big32) : Ap (fmul .f32 x 1073741824) (a * 2) (2 * e) := by
  obtain ⟨h1, h2⟩ := double_E h.1 ((h.inn hA).mono hb)
  refine ⟨h1, ?_⟩
  rw [h2]
  have := h.2.1
  have := h.2.2
  exact ⟨by grind, by grind⟩

/-! ### vectors of rational numbers -/
def NB (x y z A : Rat) : Prop := x * x + y * y + z * z ≤ A * A ∧ 0 ≤ A

theorem sq_nn (a : Rat) : 0 ≤ a * a := by
  rcases Rat.le_total (a := 0) (b := a) with h | h
  · exact Rat.mul_nonneg h h
  · have := Rat.mul_nonneg (a := -a) (b := -a) (by grind) (by grind)
    grind

theorem In.sq {a A : Rat} (h : In a A) : a * a ≤ A * A := (h.mul h).2
theorem In.of_sq {a A : Rat} (h : a * a ≤ A * A) (hA : 0 ≤ A) : In a A := by
  refine ⟨?_, le_of_sq hA h⟩
  have := le_of_sq (a := -a) hA (by grind)
  grind

theorem NB.comp {x y z A : Rat} (h : NB x y z A) : In x A ∧ In y A ∧ In z A := by
  have := sq_nn x; have := sq_nn y; have := sq_nn z; have := h.1
  exact ⟨In.of_sq (by grind) h.2, In.of_sq (by grind) h.2, In.of_sq (by grind) h.2⟩
theorem NB.of {x y z e : Rat} (hx : In x e) (hy : In y e) (hz : In z e) : NB x y z (17321 / 10000 * e) := by
  have h0 : 0 ≤ e := by have := hx.1; have := hx.2; grind
  have := hx.sq; have := hy.sq; have := hz.sq; have := Rat.mul_nonneg h0 h0
  exact ⟨by grind, by grind⟩
theorem NB.mono {x y z A B : Rat} (h : NB x y z A) (hB : A ≤ B) : NB x y z B := ⟨Rat.le_trans h.1 (sq_le h.2 hB), Rat.le_trans h.2 hB⟩

theorem NB.inner {x y z x' y' z' A B : Rat} (h : NB x y z A) (h' : NB x' y' z' B) : In (x * x' + y * y' + z * z') (A * B) := by
  refine In.of_sq ?_ (Rat.mul_nonneg h.2 h'.2)
  have e : (x * x' + y * y' + z * z') * (x * x' + y * y' + z * z') + ((y * z' - z * y') * (y * z' - z * y') + (z * x' - x * z') * (z * x' - x * z') + (x * y' - y * x') * (x * y' - y * x'))
      = (x * x + y * y + z * z) * (x' * x' + y' * y' + z' * z') := by grind
  have p1 := sq_nn (y * z' - z * y'); have p2 := sq_nn (z * x' - x * z'); have p3 := sq_nn (x * y' - y * x')
  have q0 : 0 ≤ x' * x' + y' * y' + z' * z' := by have := sq_nn x'; have := sq_nn y'; have := sq_nn z'; grind
  have q1 := Rat.mul_le_mul_of_nonneg_right h.1 q0
  have q2 := Rat.mul_le_mul_of_nonneg_left h'.1 (Rat.mul_nonneg h.2 h.2)
  grind
theorem NB.add {x y z x' y' z' A B : Rat} (h : NB x y z A) (h' : NB x' y' z' B) : NB (x + x') (y + y') (z + z') (A + B) := by
  have h1 := h.1; have h2 := h'.1; have h3 := (h.inner h').2
  refine ⟨?_, by have := h.2; have := h'.2; grind⟩
  have e1 : (x + x') * (x + x') + (y + y') * (y + y') + (z + z') * (z + z') = (x * x + y * y + z * z) + (x' * x' + y' * y' + z' * z') + 2 * (x * x' + y * y' + z * z') := by grind
  have e2 : (A + B) * (A + B) = A * A + B * B + 2 * (A * B) := by grind
  rw [e1, e2]; grind
theorem NB.neg {x y z A : Rat} (h : NB x y z A) : NB (-x) (-y) (-z) A := ⟨by have := h.1; grind, h.2⟩
end Go.Fw
/- Whole numbers, the greater and the less of two, as rational numbers. No condition. -/
set_option linter.unusedVariables false
set_option linter.unusedSimpArgs false
namespace Go.Fw
open Ieee

theorem fofInt_R {n : Int} (h : n.natAbs < 9007199254740992) : fin .f64 (fofInt .f64 n) ∧ R .f64 (fofInt .f64 n) = (n : Rat) := by
  have hb : (n.natAbs : Rat) * w2 0 ≤ w2 (top .f64) := by
    have h1 : (n.natAbs : Rat) ≤ ((9007199254740992 : Nat) : Rat) := Rat.natCast_le_natCast.2 (by omega)
    have h2 : ((9007199254740992 : Nat) : Rat) = w2 53 := by decide +kernel
    have h3 : w2 53 ≤ w2 (top .f64) := w2_le (by decide)
    rw [w2_zero]; grind
  obtain ⟨f1, _, v, _, f3, _, f5⟩ := round_R .f64 (decide (n < 0)) n.natAbs 0 hb
  have e : fofInt .f64 n = FloatKind.f64.format.nearest (decide (n < 0)) n.natAbs 0 := rfl
  rw [e]
  refine ⟨f1, ?_⟩
  rw [f3, f5 (by show n.natAbs < 2 ^ 53; omega) (by decide), w2_zero]
  by_cases h0 : n < 0
  · rw [decide_eq_true h0, if_pos rfl, intR_neg h0]; grind
  · rw [decide_eq_false h0, intR_nonneg (by omega)]
    simp

end Go.Fw
