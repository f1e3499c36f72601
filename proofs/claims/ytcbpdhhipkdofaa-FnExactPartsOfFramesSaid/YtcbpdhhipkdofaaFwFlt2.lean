/- Floating point numbers: widening is exact; the subnormal numbers of single precision. No condition. -/
import Derived.Test.YtcbpdhhipkdofaaFwFlt
namespace Go.Fw
open Ieee

/-- The word of a number of single precision that is not zero, in double precision. -/
theorem near64_read (s : Bool) {m : Nat} {e : Int} (hm0 : m ≠ 0) (hm : m < 2 ^ 24) (he1 : -149 ≤ e) (he2 : e ≤ 104) :
    ∃ g, FloatKind.f64.format.nearest s m e = FloatKind.f64.format.word s g ∧ FloatKind.f64.format.binade ≤ g ∧ g < FloatKind.f64.format.infRung ∧
      FloatKind.f64.format.binade + g % FloatKind.f64.format.binade = m * 2 ^ (52 - m.log2) ∧ ((g / FloatKind.f64.format.binade - 1 : Nat) : Int) = e + m.log2 + 1022 := by
  have hI : FloatKind.f64.format.infRung = 2047 * FloatKind.f64.format.binade := rfl
  have hB : 0 < FloatKind.f64.format.binade := Nat.two_pow_pos _
  have hBe : FloatKind.f64.format.binade = 2 ^ 52 := rfl
  have e1 : FloatKind.f64.format.fractionBits = 52 := rfl
  have e2 : FloatKind.f64.format.leastPlace = -1074 := rfl
  generalize FloatKind.f64.format = fm at *
  unfold Format.nearest
  rw [if_neg hm0]
  have hl : m.log2 ≤ 23 := by
    have : m.log2 < 24 := (Nat.log2_lt hm0).2 hm
    omega
  have hlast : max (e + (m.log2 : Int) - (52 : Nat)) (-1074) = e + m.log2 - 52 := by omega
  simp only [e1, e2, hlast]
  have h5 : (e - (e + (m.log2 : Int) - 52)).toNat = 52 - m.log2 := by omega
  have h7 : m < 2 ^ (m.log2 + 1) := Nat.lt_log2_self
  have h8 : m * 2 ^ (52 - m.log2) < 2 ^ (m.log2 + 1) * 2 ^ (52 - m.log2) := Nat.mul_lt_mul_of_pos_right h7 (Nat.two_pow_pos _)
  rw [← Nat.pow_add, show m.log2 + 1 + (52 - m.log2) = 52 + 1 by omega, Nat.pow_succ, ← hBe] at h8
  have h9 : 2 ^ m.log2 ≤ m := Nat.log2_self_le hm0
  have h10 : 2 ^ m.log2 * 2 ^ (52 - m.log2) ≤ m * 2 ^ (52 - m.log2) := Nat.mul_le_mul_right _ h9
  rw [← Nat.pow_add, show m.log2 + (52 - m.log2) = 52 by omega, ← hBe] at h10
  obtain ⟨q, hq⟩ : ∃ q : Nat, (q : Int) = e + m.log2 + 1022 := ⟨(e + m.log2 + 1022).toNat, by omega⟩
  have hq2 : (e + (m.log2 : Int) - 52 - -1074).toNat = q := by omega
  rw [show (e + (m.log2 : Int) - 52 - e).toNat = m.log2 - 52 by omega, show m.log2 - 52 = 0 by omega, cut_zero, Nat.shiftLeft_eq, h5, hq2]
  generalize m * 2 ^ (52 - m.log2) = kept at *
  have h11 : q * fm.binade ≤ 1149 * fm.binade := Nat.mul_le_mul_right _ (by omega)
  have h12 : min (q * fm.binade + kept) fm.infRung = q * fm.binade + kept := by rw [hI]; omega
  refine ⟨q * fm.binade + kept, by rw [h12], by omega, by rw [hI]; omega, ?_, ?_⟩
  · have : (q * fm.binade + kept) % fm.binade = kept - fm.binade := by
      rw [show q * fm.binade + kept = (kept - fm.binade) + fm.binade * (q + 1) by rw [Nat.mul_add, Nat.mul_comm fm.binade q]; omega, Nat.add_mul_mod_self_left, Nat.mod_eq_of_lt (by omega)]
    omega
  · have : (q * fm.binade + kept) / fm.binade = q + 1 := by
      rw [show q * fm.binade + kept = (kept - fm.binade) + fm.binade * (q + 1) by rw [Nat.mul_add, Nat.mul_comm fm.binade q]; omega, Nat.add_mul_div_left _ _ hB, Nat.div_eq_of_lt (by omega)]
      omega
    rw [this]
    omega

/-- The magnitude in double precision. -/
def abs64 (x : Nat) : Nat := canon .f64 (x % 2 ^ 63)

/-- 2 to the power of -126. -/
def least32 : Nat := 4039728865751334912

theorem read_least : FloatKind.f64.format.read least32 = .number false 4503599627370496 (-178) := by decide +kernel

theorem flt_nan {k : FloatKind} {x y : Nat} (h : isNan k x = true) : flt k x y = false := by
  unfold flt; rw [order_nan_left h]; rfl

/-- The subnormal numbers, and zero, are the small ones. -/
theorem small_iff {x r : Nat} (hn : isNan .f32 x = false) (h0 : x % 2 ^ 31 ≠ 0) (hr : fconv .f32 .f64 x = some r) : flt .f64 (abs64 r) least32 = decide (x % 2 ^ 31 < 2 ^ 23) := by
  have hsw : FloatKind.f32.format.signWeight = 2 ^ 31 := rfl
  have hB : FloatKind.f32.format.binade = 8388608 := rfl
  have hI : FloatKind.f32.format.infRung = 2139095040 := rfl
  have hL : FloatKind.f32.format.leastPlace = -149 := rfl
  have hsw64 : FloatKind.f64.format.signWeight = 2 ^ 63 := rfl
  have hL64 : FloatKind.f64.format.leastPlace = -1074 := rfl
  have num : ∀ (m : Nat) (e : Int), m ≠ 0 → FloatKind.f32.format.read x = .number (x / 2 ^ 31 % 2 == 1) m e → m < 2 ^ 24 → -149 ≤ e → e ≤ 104 → flt .f64 (abs64 r) least32 = decide (e + m.log2 + 1022 < 896) := by
    intro m e hm0 hrd hm he1 he2
    obtain ⟨g, hg, hg1, hg2, hg3, hg4⟩ := near64_read (x / 2 ^ 31 % 2 == 1) hm0 hm he1 he2
    have hgs : g < FloatKind.f64.format.signWeight := Nat.lt_trans hg2 FloatKind.f64.format.infRung_lt
    obtain ⟨p1, p2⟩ := word_parts .f64 (x / 2 ^ 31 % 2 == 1) hgs
    have henc : FloatKind.f64.encode (.number (x / 2 ^ 31 % 2 == 1) m e) = FloatKind.f64.format.word (x / 2 ^ 31 % 2 == 1) g := hg
    have hni : (FloatKind.f64.decode (FloatKind.f64.encode (.number (x / 2 ^ 31 % 2 == 1) m e))).isInfinity = false := by
      rw [henc]
      obtain ⟨m', e', hr', _⟩ := read_fin FloatKind.f64.format (FloatKind.f64.format.word (x / 2 ^ 31 % 2 == 1) g) (by rw [p2]; exact hg2)
      show (FloatKind.f64.format.read _).isInfinity = false
      rw [hr']; rfl
    have hre := conv_num hn hrd hni
    rw [hr, henc] at hre
    have hre := Option.some.inj hre
    have hmod : r % 2 ^ 63 = g := by rw [hre, ← hsw64]; exact p2
    have hgm : g % FloatKind.f64.format.signWeight = g := Nat.mod_eq_of_lt hgs
    have hgd : g / FloatKind.f64.format.signWeight = 0 := Nat.div_eq_of_lt hgs
    have hread : FloatKind.f64.format.read g = .number false (m * 2 ^ (52 - m.log2)) (-1074 + (e + m.log2 + 1022)) := by
      rcases read_cases FloatKind.f64.format g with ⟨h1, _⟩ | ⟨_, _, h2⟩ | ⟨h1, _⟩ | ⟨h1, _⟩
      · rw [hgm] at h1; omega
      · rw [h2, hgm, hgd, hg3, hg4, hL64]; rfl
      · rw [hgm] at h1; omega
      · rw [hgm] at h1; omega
    have hnan : isNan .f64 g = false := by
      show (FloatKind.f64.format.read g).isNaN = false
      rw [hread]; rfl
    have ha : abs64 r = g := by unfold abs64; rw [hmod, canon_num hnan]
    rw [ha]
    unfold flt Format.order
    rw [hread, read_least]
    have hl : m.log2 ≤ 23 := by
      have : m.log2 < 24 := (Nat.log2_lt hm0).2 hm
      omega
    have h7 : m < 2 ^ (m.log2 + 1) := Nat.lt_log2_self
    have h9 : 2 ^ m.log2 ≤ m := Nat.log2_self_le hm0
    have h8 : m * 2 ^ (52 - m.log2) < 2 ^ (m.log2 + 1) * 2 ^ (52 - m.log2) := Nat.mul_lt_mul_of_pos_right h7 (Nat.two_pow_pos _)
    rw [← Nat.pow_add, show m.log2 + 1 + (52 - m.log2) = 53 by omega] at h8
    have h10 : 2 ^ m.log2 * 2 ^ (52 - m.log2) ≤ m * 2 ^ (52 - m.log2) := Nat.mul_le_mul_right _ h9
    rw [← Nat.pow_add, show m.log2 + (52 - m.log2) = 52 by omega] at h10
    generalize m * 2 ^ (52 - m.log2) = kept at *
    simp only [Datum.order]
    rw [signed_eq, signed_eq]
    simp only [Bool.false_eq_true, if_false, Int.one_mul]
    rw [Bool.eq_iff_iff]
    simp only [beq_iff_eq, Option.some.injEq, decide_eq_true_eq, Int.compare_eq_lt]
    by_cases hc : e + m.log2 + 1022 < 896
    · have e3 : (-1074 + (e + (m.log2 : Int) + 1022) - min (-1074 + (e + (m.log2 : Int) + 1022)) (-178)).toNat = 0 := by omega
      obtain ⟨u, hu⟩ : ∃ u, (-178 - min (-1074 + (e + (m.log2 : Int) + 1022)) (-178)).toNat = u + 1 := ⟨(-178 - min (-1074 + (e + (m.log2 : Int) + 1022)) (-178)).toNat - 1, by omega⟩
      rw [e3, hu]
      refine ⟨fun _ => hc, fun _ => ?_⟩
      have h12 : 2 ^ 1 ≤ 2 ^ (u + 1) := Nat.pow_le_pow_right (by omega) (by omega)
      have h13 : 4503599627370496 * 2 ^ 1 ≤ 4503599627370496 * 2 ^ (u + 1) := Nat.mul_le_mul_left _ h12
      have h14 : kept * 2 ^ 0 < 4503599627370496 * 2 ^ (u + 1) := by omega
      exact Int.ofNat_lt.2 h14
    · have e3 : (-178 - min (-1074 + (e + (m.log2 : Int) + 1022)) (-178)).toNat = 0 := by omega
      rw [e3]
      refine ⟨fun h => ?_, fun h => absurd h hc⟩
      exfalso
      have h14 : kept * 2 ^ (-1074 + (e + (m.log2 : Int) + 1022) - min (-1074 + (e + (m.log2 : Int) + 1022)) (-178)).toNat < 4503599627370496 * 2 ^ 0 := Int.ofNat_lt.1 h
      have h15 : kept * 1 ≤ kept * 2 ^ (-1074 + (e + (m.log2 : Int) + 1022) - min (-1074 + (e + (m.log2 : Int) + 1022)) (-178)).toNat := Nat.mul_le_mul_left _ (Nat.two_pow_pos _)
      omega
  rcases read_cases FloatKind.f32.format x with ⟨h1, h2⟩ | ⟨h1, h3, h2⟩ | ⟨h1, h2⟩ | ⟨h1, t, h2⟩
  · rw [hsw, hB] at h1
    rw [hsw, hL] at h2
    rw [num _ _ h0 h2 (by omega) (by omega) (by omega)]
    have : (x % 2 ^ 31).log2 < 23 := (Nat.log2_lt h0).2 (by omega)
    rw [decide_eq_true (by omega), decide_eq_true (by omega)]
  · rw [hsw, hB] at h1
    rw [hsw, hI] at h3
    rw [hsw, hL, hB] at h2
    have hm := Nat.mod_lt (x % 2 ^ 31) (show 0 < 8388608 by omega)
    have hd : x % 2 ^ 31 / 8388608 < 255 := Nat.div_lt_of_lt_mul (by omega)
    have hm0 : 8388608 + x % 2 ^ 31 % 8388608 ≠ 0 := by omega
    rw [num _ _ hm0 h2 (by omega) (by omega) (by omega)]
    have : 23 ≤ (8388608 + x % 2 ^ 31 % 8388608).log2 := (Nat.le_log2 hm0).2 (by omega)
    rw [decide_eq_false (by omega), decide_eq_false (by omega)]
  · rw [hsw, hI] at h1
    rw [hsw] at h2
    have hre := conv_inf hn h2
    rw [hr] at hre
    have hre := Option.some.inj hre
    have e0 : ∀ s, FloatKind.f64.encode (.infinity s) = FloatKind.f64.format.word s FloatKind.f64.format.infRung := fun _ => rfl
    have hmod : r % 2 ^ 63 = FloatKind.f64.format.infRung := by rw [hre, e0, ← hsw64]; exact word_mod _ _ FloatKind.f64.format.infRung_lt
    have hread : FloatKind.f64.format.read FloatKind.f64.format.infRung = .infinity false := by decide +kernel
    have ha : abs64 r = FloatKind.f64.format.infRung := by
      unfold abs64
      rw [hmod, canon_num]
      show (FloatKind.f64.format.read _).isNaN = false
      rw [hread]; rfl
    rw [ha]
    unfold flt Format.order
    rw [hread, read_least]
    rw [decide_eq_false (by omega)]
    rfl
  · exfalso
    have : isNan .f32 x = true := by
      show (FloatKind.f32.format.read x).isNaN = true
      rw [h2]; rfl
    rw [hn] at this; cases this

end Go.Fw
