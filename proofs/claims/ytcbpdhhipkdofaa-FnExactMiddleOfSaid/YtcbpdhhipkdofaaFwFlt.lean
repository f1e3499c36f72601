/- Floating point numbers: equality, signs, widening. No condition. -/
import Derived.Test.YtcbpdhhipkdofaaFwFloat
namespace Go.Fw
open Ieee

/-- The two parts of a word. -/
theorem read_cases (f : Format) (b : Nat) :
    (b % f.signWeight < f.binade ∧ f.read b = .number (b / f.signWeight % 2 == 1) (b % f.signWeight) f.leastPlace) ∨
    (f.binade ≤ b % f.signWeight ∧ b % f.signWeight < f.infRung ∧ f.read b = .number (b / f.signWeight % 2 == 1) (f.binade + b % f.signWeight % f.binade) (f.leastPlace + (b % f.signWeight / f.binade - 1 : Nat))) ∨
    (b % f.signWeight = f.infRung ∧ f.read b = .infinity (b / f.signWeight % 2 == 1)) ∨
    (f.infRung < b % f.signWeight ∧ ∃ t, f.read b = .nan (b / f.signWeight % 2 == 1) t) := by
  unfold Format.read
  dsimp only
  split
  · rename_i h; exact .inl ⟨h, rfl⟩
  · rename_i h
    split
    · rename_i h2; exact .inr (.inl ⟨by omega, h2, rfl⟩)
    · rename_i h2
      split
      · rename_i h3; exact .inr (.inr (.inl ⟨h3, rfl⟩))
      · rename_i h3; exact .inr (.inr (.inr ⟨by omega, _, rfl⟩))

theorem cmp_self (a : Int) : compare a a = .eq := by simp
theorem cmp_eq {a b : Int} (h : compare a b = .eq) : a = b := by simpa using h

theorem order_self {k : FloatKind} {x : Nat} (h : isNan k x = false) : k.format.order x x = some .eq := by
  unfold isNan at h
  change ((k.format.read x).isNaN) = false at h
  unfold Format.order
  cases hd : k.format.read x with
  | number s m i => simp [Datum.order]
  | infinity s => simp [Datum.order]
  | nan s t => rw [hd] at h; cases h

theorem feq_self {k : FloatKind} {x : Nat} : feq k x x = !isNan k x := by
  cases h : isNan k x
  · unfold feq; rw [order_self h]; rfl
  · unfold feq; rw [order_nan_left h]; rfl

/-- The magnitude of a rung, in the least place. -/
def mag (B r : Nat) : Nat := if r < B then r else (B + r % B) * 2 ^ (r / B - 1)

theorem mag_lt {B r : Nat} (hB : 0 < B) (h : B ≤ r) : B * 2 ^ (r / B - 1) ≤ mag B r ∧ mag B r < B * 2 ^ (r / B) := by
  have hd : 1 ≤ r / B := (Nat.le_div_iff_mul_le hB).2 (by omega)
  have hm := Nat.mod_lt r hB
  unfold mag
  rw [if_neg (by omega)]
  refine ⟨Nat.mul_le_mul_right _ (by omega), ?_⟩
  have e : 2 ^ (r / B) = 2 ^ (r / B - 1) * 2 := by
    conv => lhs; rw [show r / B = r / B - 1 + 1 by omega]
    rw [Nat.pow_succ]
  rw [e, ← Nat.mul_assoc, Nat.mul_right_comm]
  exact Nat.mul_lt_mul_of_pos_right (by omega) (Nat.two_pow_pos _)

theorem mag_inj {B : Nat} (hB : 0 < B) : ∀ {r s : Nat}, mag B r = mag B s → r = s := by
  have key : ∀ r s : Nat, mag B r = mag B s → r < B → r = s := by
    intro r s h hr
    by_cases hs : s < B
    · simpa [mag, hr, hs] using h
    · exfalso
      have h1 := (mag_lt hB (show B ≤ s by omega)).1
      have h2 : B ≤ B * 2 ^ (s / B - 1) := Nat.le_mul_of_pos_right _ (Nat.two_pow_pos _)
      have h3 : mag B r = r := by simp [mag, hr]
      omega
  intro r s h
  by_cases hr : r < B
  · exact key r s h hr
  · by_cases hs : s < B
    · exact (key s r h.symm hs).symm
    · have r1 := mag_lt hB (show B ≤ r by omega)
      have s1 := mag_lt hB (show B ≤ s by omega)
      have hd1 : 1 ≤ r / B := (Nat.le_div_iff_mul_le hB).2 (by omega)
      have hd2 : 1 ≤ s / B := (Nat.le_div_iff_mul_le hB).2 (by omega)
      have he : r / B = s / B := by
        rcases Nat.lt_trichotomy (r / B) (s / B) with hlt | heq | hlt
        · exfalso
          have : B * 2 ^ (r / B) ≤ B * 2 ^ (s / B - 1) := Nat.mul_le_mul_left _ (Nat.pow_le_pow_right (by omega) (by omega))
          omega
        · exact heq
        · exfalso
          have : B * 2 ^ (s / B) ≤ B * 2 ^ (r / B - 1) := Nat.mul_le_mul_left _ (Nat.pow_le_pow_right (by omega) (by omega))
          omega
      unfold mag at h
      rw [if_neg hr, if_neg hs, he] at h
      have := Nat.eq_of_mul_eq_mul_right (Nat.two_pow_pos _) h
      have h1 := Nat.div_add_mod r B
      have h2 := Nat.div_add_mod s B
      rw [he] at h1
      omega

theorem binade_le (f : Format) : f.binade ≤ f.infRung ∨ f.exponentBits = 0 := by
  rcases Nat.eq_zero_or_pos f.exponentBits with h | h
  · exact .inr h
  · left
    unfold Format.infRung
    have : 2 ^ 1 ≤ 2 ^ f.exponentBits := Nat.pow_le_pow_right (by omega) h
    exact Nat.le_mul_of_pos_left _ (by omega)

theorem binade_leK (k : FloatKind) : k.format.binade ≤ k.format.infRung := by
  cases k
  · show 2 ^ 23 ≤ (2 ^ 8 - 1) * 2 ^ 23; decide
  · show 2 ^ 52 ≤ (2 ^ 11 - 1) * 2 ^ 52; decide

theorem read_inf {k : FloatKind} {b : Nat} (h : b % k.format.signWeight = k.format.infRung) : k.format.read b = .infinity (b / k.format.signWeight % 2 == 1) := by
  have := binade_leK k
  rcases read_cases k.format b with ⟨h1, h2⟩ | ⟨h1, h3, h2⟩ | ⟨h1, h2⟩ | ⟨h1, t, h2⟩
  · omega
  · omega
  · exact h2
  · omega

theorem read_nan' {k : FloatKind} {b : Nat} (h : k.format.infRung < b % k.format.signWeight) : ∃ t, k.format.read b = .nan (b / k.format.signWeight % 2 == 1) t := by
  have := binade_leK k
  rcases read_cases k.format b with ⟨h1, h2⟩ | ⟨h1, h3, h2⟩ | ⟨h1, h2⟩ | ⟨h1, t, h2⟩
  · omega
  · omega
  · omega
  · exact ⟨t, h2⟩

/-- A finite number's datum, in one form. -/
theorem read_fin (f : Format) (b : Nat) (h : b % f.signWeight < f.infRung) : ∃ m : Nat, ∃ e : Nat, f.read b = .number (b / f.signWeight % 2 == 1) m (f.leastPlace + e) ∧ m * 2 ^ e = mag f.binade (b % f.signWeight) := by
  rcases read_cases f b with ⟨h1, h2⟩ | ⟨h1, _, h2⟩ | ⟨h1, _⟩ | ⟨h1, _⟩
  · exact ⟨_, 0, by simpa using h2, by simp [mag, h1]⟩
  · exact ⟨_, _, h2, by unfold mag; rw [if_neg (by omega)]⟩
  · omega
  · omega

theorem signed_eq (s : Bool) (m u : Nat) : signed s m u = (if s then -1 else 1) * ((m * 2 ^ u : Nat) : Int) := by
  unfold signed
  rw [Nat.shiftLeft_eq]
  cases s <;> simp

theorem two_parts (f : Format) {x : Nat} (hx : x < 2 * f.signWeight) : x = f.signWeight * (x / f.signWeight % 2) + x % f.signWeight := by
  have h1 := Nat.div_add_mod x f.signWeight
  have hpos : 0 < f.signWeight := Nat.two_pow_pos _
  have h2 : x / f.signWeight < 2 := Nat.div_lt_of_lt_mul (by omega)
  rw [Nat.mod_eq_of_lt h2]
  omega

theorem sw_two (k : FloatKind) : 2 ^ k.format.width = 2 * k.format.signWeight := by cases k <;> rfl

/-- Numbers that are equal are the same word, or zeros. -/
theorem feq_spec {k : FloatKind} {x y : Nat} (hx : x < 2 ^ k.format.width) (hy : y < 2 ^ k.format.width) (h : feq k x y = true) : x = y ∨ (x % k.format.signWeight = 0 ∧ y % k.format.signWeight = 0) := by
  have h0 : k.format.order x y = some .eq := by simpa [feq] using h
  rw [sw_two] at hx hy
  have hB : 0 < k.format.binade := Nat.two_pow_pos _
  have px := two_parts k.format hx
  have py := two_parts k.format hy
  have sgn : ∀ (a b : Nat), ((a / k.format.signWeight % 2 == 1) = (b / k.format.signWeight % 2 == 1)) → a / k.format.signWeight % 2 = b / k.format.signWeight % 2 := fun a b e => by
    have h1 := Nat.mod_two_eq_zero_or_one (a / k.format.signWeight)
    have h2 := Nat.mod_two_eq_zero_or_one (b / k.format.signWeight)
    rcases h1 with h1 | h1 <;> rcases h2 with h2 | h2 <;> rw [h1, h2] at e <;> simp at e <;> omega
  unfold Format.order at h0
  rcases Nat.lt_trichotomy (x % k.format.signWeight) k.format.infRung with hx1 | hx1 | hx1 <;> rcases Nat.lt_trichotomy (y % k.format.signWeight) k.format.infRung with hy1 | hy1 | hy1
  · obtain ⟨m, e, r1, v1⟩ := read_fin k.format x hx1
    obtain ⟨n, d, r2, v2⟩ := read_fin k.format y hy1
    rw [r1, r2] at h0
    simp only [Datum.order, Option.some.injEq] at h0
    have h0 := cmp_eq h0
    rw [signed_eq, signed_eq] at h0
    have scale : ∀ (m e d : Nat), m * 2 ^ ((k.format.leastPlace + (e : Int)) - min (k.format.leastPlace + (e : Int)) (k.format.leastPlace + (d : Int))).toNat * 2 ^ (min e d) = m * 2 ^ e := fun m e d => by
      rw [Nat.mul_assoc, ← Nat.pow_add]
      congr 2
      omega
    have s1 := scale m e d
    have s2 := scale n d e
    rw [show min (k.format.leastPlace + (d : Int)) (k.format.leastPlace + (e : Int)) = min (k.format.leastPlace + (e : Int)) (k.format.leastPlace + (d : Int)) by omega, show min d e = min e d by omega] at s2
    rw [v1] at s1
    rw [v2] at s2
    generalize (m * 2 ^ ((k.format.leastPlace + (e : Int)) - min (k.format.leastPlace + (e : Int)) (k.format.leastPlace + (d : Int))).toNat) = A at *
    generalize (n * 2 ^ ((k.format.leastPlace + (d : Int)) - min (k.format.leastPlace + (e : Int)) (k.format.leastPlace + (d : Int))).toNat) = C at *
    have zero : ∀ r, mag k.format.binade r = 0 → r = 0 := fun r hr => by
      refine mag_inj hB (s := 0) ?_
      rw [hr]; simp [mag, hB]
    have hAC : A = C ∧ ((x / k.format.signWeight % 2 == 1) = (y / k.format.signWeight % 2 == 1) ∨ A = 0) := by
      cases hs : (x / k.format.signWeight % 2 == 1) <;> cases ht : (y / k.format.signWeight % 2 == 1) <;> rw [hs, ht] at h0 <;> simp at h0 <;> (refine ⟨by omega, ?_⟩) <;> first | exact .inl rfl | (right; omega)
    obtain ⟨rfl, hs⟩ := hAC
    have hr : x % k.format.signWeight = y % k.format.signWeight := mag_inj hB (s1.symm.trans s2)
    rcases hs with hs | hs
    · left
      rw [px, py, sgn x y hs, hr]
    · right
      subst hs
      rw [Nat.zero_mul] at s1 s2
      exact ⟨zero _ s1.symm, zero _ s2.symm⟩
  · obtain ⟨m, e, r1, v1⟩ := read_fin k.format x hx1
    rw [r1, read_inf hy1] at h0
    simp only [Datum.order] at h0
    split at h0 <;> cases h0
  · obtain ⟨t, ht⟩ := read_nan' hy1
    obtain ⟨m, e, r1, v1⟩ := read_fin k.format x hx1
    rw [r1, ht] at h0
    cases h0
  · obtain ⟨n, d, r2, v2⟩ := read_fin k.format y hy1
    rw [r2, read_inf hx1] at h0
    simp only [Datum.order] at h0
    split at h0 <;> cases h0
  · rw [read_inf hx1, read_inf hy1] at h0
    simp only [Datum.order, Option.some.injEq] at h0
    have hs : x / k.format.signWeight % 2 = y / k.format.signWeight % 2 := by
      have h1 := Nat.mod_two_eq_zero_or_one (x / k.format.signWeight)
      have h2 := Nat.mod_two_eq_zero_or_one (y / k.format.signWeight)
      rcases h1 with h1 | h1 <;> rcases h2 with h2 | h2 <;> rw [h1, h2] at h0 <;> first | (rw [h1, h2]; done) | (exfalso; revert h0; decide)
    left
    rw [px, py, hs, hx1, hy1]
  · obtain ⟨t, ht⟩ := read_nan' hy1
    rw [read_inf hx1, ht] at h0
    cases h0
  all_goals
    obtain ⟨t, ht⟩ := read_nan' hx1
    rw [ht] at h0
    cases h0

/-! ### widening -/
theorem isNan_iff (k : FloatKind) (x : Nat) : isNan k x = decide (k.format.infRung < x % k.format.signWeight) := by
  show (k.format.read x).isNaN = _
  rcases read_cases k.format x with ⟨h1, h2⟩ | ⟨h1, h3, h2⟩ | ⟨h1, h2⟩ | ⟨h1, t, h2⟩
  · rw [h2]
    have := binade_leK k
    simp [Datum.isNaN]; omega
  · rw [h2]; simp [Datum.isNaN]; omega
  · rw [h2]; simp [Datum.isNaN]; omega
  · rw [h2]; simp [Datum.isNaN, h1]

theorem word_parts (k : FloatKind) (s : Bool) {r : Nat} (h : r < k.format.signWeight) : k.format.word s r / k.format.signWeight = s.toNat ∧ k.format.word s r % k.format.signWeight = r := by
  refine ⟨?_, word_mod _ s h⟩
  have hp : 0 < k.format.signWeight := Nat.two_pow_pos _
  cases s
  · show r / _ = 0
    exact Nat.div_eq_of_lt h
  · show (k.format.signWeight + r) / _ = 1
    rw [Nat.add_div_left _ hp, Nat.div_eq_of_lt h]

theorem cut_zero (way : Ieee.Toward) (neg : Bool) (n : Nat) : way.cut neg n 0 = n := by
  unfold Ieee.Toward.cut
  cases way <;> simp [Nat.mod_one]

theorem conv_inf {x : Nat} {s : Bool} (hn : isNan .f32 x = false) (h : FloatKind.f32.format.read x = .infinity s) : fconv .f32 .f64 x = some (FloatKind.f64.encode (.infinity s)) := by
  have h' : FloatKind.f32.decode x = .infinity s := h
  unfold fconv floatToFloatBits
  rw [hn, if_neg (by decide), h']
  rfl

theorem conv_num {x m : Nat} {s : Bool} {e : Int} (hn : isNan .f32 x = false) (h : FloatKind.f32.format.read x = .number s m e) (hi : (FloatKind.f64.decode (FloatKind.f64.encode (.number s m e))).isInfinity = false) :
    fconv .f32 .f64 x = some (FloatKind.f64.encode (.number s m e)) := by
  have h' : FloatKind.f32.decode x = .number s m e := h
  unfold fconv floatToFloatBits
  rw [hn, if_neg (by decide), h']
  simp only [cond_false, hi, Bool.false_eq_true, if_false]

theorem near_bound (I B M q : Nat) (h1 : q ≤ 1149) (h2 : M < 2 * B) (h3 : I = 2047 * B) (_hB : 0 < B) : min (q * B + M) I < I := by
  have h4 : q * B ≤ 1149 * B := Nat.mul_le_mul_right _ h1
  have h5 : q * B + M < I := by rw [h3]; omega
  omega

theorem near64 (s : Bool) {m : Nat} {e : Int} (hm : m < 2 ^ 24) (he1 : -149 ≤ e) (he2 : e ≤ 104) : ∃ g, FloatKind.f64.format.nearest s m e = FloatKind.f64.format.word s g ∧ g < FloatKind.f64.format.infRung := by
  have hI : FloatKind.f64.format.infRung = 2047 * FloatKind.f64.format.binade := rfl
  have hB : 0 < FloatKind.f64.format.binade := Nat.two_pow_pos _
  have hBe : FloatKind.f64.format.binade = 2 ^ 52 := rfl
  have e1 : FloatKind.f64.format.fractionBits = 52 := rfl
  have e2 : FloatKind.f64.format.leastPlace = -1074 := rfl
  generalize FloatKind.f64.format = fm at *
  unfold Format.nearest
  split
  · exact ⟨0, rfl, by rw [hI]; omega⟩
  · rename_i hm0
    have hl : m.log2 ≤ 23 := by
      have : m.log2 < 24 := (Nat.log2_lt hm0).2 hm
      omega
    have hlast : max (e + (m.log2 : Int) - (52 : Nat)) (-1074) = e + m.log2 - 52 := by omega
    simp only [e1, e2, hlast]
    refine ⟨_, rfl, ?_⟩
    rw [show (e + (m.log2 : Int) - 52 - e).toNat = m.log2 - 52 by omega, show m.log2 - 52 = 0 by omega, cut_zero, Nat.shiftLeft_eq]
    have h5 : (e - (e + (m.log2 : Int) - 52)).toNat = 52 - m.log2 := by omega
    rw [h5]
    refine near_bound _ _ _ _ (by omega) ?_ hI hB
    have h7 : m < 2 ^ (m.log2 + 1) := Nat.lt_log2_self
    have h8 : m * 2 ^ (52 - m.log2) < 2 ^ (m.log2 + 1) * 2 ^ (52 - m.log2) := Nat.mul_lt_mul_of_pos_right h7 (Nat.two_pow_pos _)
    rw [← Nat.pow_add, show m.log2 + 1 + (52 - m.log2) = 52 + 1 by omega, Nat.pow_succ, ← hBe] at h8
    omega

/-- A number of single precision, in double precision. -/
theorem widen {x : Nat} (hx : x < 2 ^ 32) (hn : isNan .f32 x = false) : ∃ r, fconv .f32 .f64 x = some r ∧ isNan .f64 r = false ∧ r < 2 ^ 64 ∧ r / 2 ^ 63 = x / 2 ^ 31 := by
  have hsw : FloatKind.f32.format.signWeight = 2 ^ 31 := rfl
  have hsw64 : FloatKind.f64.format.signWeight = 2 ^ 63 := rfl
  have hdiv : ((x / 2 ^ 31 % 2 == 1) : Bool).toNat = x / 2 ^ 31 := by
    have h1 : x / 2 ^ 31 < 2 := Nat.div_lt_of_lt_mul (by omega)
    rcases Nat.lt_or_ge (x / 2 ^ 31) 1 with h2 | h2
    · rw [show x / 2 ^ 31 = 0 by omega]; rfl
    · rw [show x / 2 ^ 31 = 1 by omega]; rfl
  have fin : ∀ r, fconv .f32 .f64 x = some r → isNan .f64 r = false ∧ r < 2 ^ 64 := fun r hr => by
    unfold fconv at hr
    rw [hn] at hr
    have := floatToFloatBits_rel (d := .f64) hx hn hr
    refine ⟨?_, this.1⟩
    unfold floatToFloatBits at hr
    rw [if_neg (by decide)] at hr
    split at hr
    · cases hr
    · cases hr; exact write_inf_not_nan _ _
    · split at hr
      · cases hr
      · cases hr; exact write_num_not_nan _ _ _ _
  have go : ∀ r, fconv .f32 .f64 x = some r → r / 2 ^ 63 = x / 2 ^ 31 → ∃ r, fconv .f32 .f64 x = some r ∧ isNan .f64 r = false ∧ r < 2 ^ 64 ∧ r / 2 ^ 63 = x / 2 ^ 31 := fun r h1 h2 => ⟨r, h1, (fin r h1).1, (fin r h1).2, h2⟩
  have num : ∀ (m : Nat) (e : Int), FloatKind.f32.format.read x = .number (x / 2 ^ 31 % 2 == 1) m e → m < 2 ^ 24 → -149 ≤ e → e ≤ 104 → ∃ r, fconv .f32 .f64 x = some r ∧ isNan .f64 r = false ∧ r < 2 ^ 64 ∧ r / 2 ^ 63 = x / 2 ^ 31 := by
    intro m e hr hm he1 he2
    obtain ⟨g, hg0, hlt⟩ := near64 (x / 2 ^ 31 % 2 == 1) hm he1 he2
    have hg : FloatKind.f64.encode (.number (x / 2 ^ 31 % 2 == 1) m e) = FloatKind.f64.format.word (x / 2 ^ 31 % 2 == 1) g := hg0
    have hgs := Nat.lt_trans hlt FloatKind.f64.format.infRung_lt
    obtain ⟨p1, p2⟩ := word_parts .f64 (x / 2 ^ 31 % 2 == 1) hgs
    have hni : (FloatKind.f64.decode (FloatKind.f64.encode (.number (x / 2 ^ 31 % 2 == 1) m e))).isInfinity = false := by
      rw [hg]
      obtain ⟨m', e', hr', _⟩ := read_fin FloatKind.f64.format (FloatKind.f64.format.word (x / 2 ^ 31 % 2 == 1) g) (by rw [p2]; exact hlt)
      show (FloatKind.f64.format.read _).isInfinity = false
      rw [hr']; rfl
    refine go (FloatKind.f64.encode (.number (x / 2 ^ 31 % 2 == 1) m e)) (conv_num hn hr hni) ?_
    rw [hg, ← hsw64, p1, hdiv]
  have hB : FloatKind.f32.format.binade = 8388608 := rfl
  have hL : FloatKind.f32.format.leastPlace = -149 := rfl
  have hI : FloatKind.f32.format.infRung = 2139095040 := rfl
  rcases read_cases FloatKind.f32.format x with ⟨h1, h2⟩ | ⟨h1, h3, h2⟩ | ⟨h1, h2⟩ | ⟨h1, t, h2⟩
  · rw [hsw, hB] at h1
    rw [hsw, hL] at h2
    exact num _ _ h2 (by omega) (by omega) (by omega)
  · rw [hsw, hB] at h1
    rw [hsw, hI] at h3
    rw [hsw, hL, hB] at h2
    have hm := Nat.mod_lt (x % 2 ^ 31) (show 0 < 8388608 by omega)
    have hd : x % 2 ^ 31 / 8388608 < 255 := Nat.div_lt_of_lt_mul (by omega)
    exact num _ _ h2 (by omega) (by omega) (by omega)
  · have e0 : ∀ s, FloatKind.f64.encode (.infinity s) = FloatKind.f64.format.word s FloatKind.f64.format.infRung := fun _ => rfl
    have e1 : FloatKind.f64.format.infRung < FloatKind.f64.format.signWeight := FloatKind.f64.format.infRung_lt
    rw [hsw] at h2
    refine go (FloatKind.f64.encode (.infinity (x / 2 ^ 31 % 2 == 1))) (conv_inf hn h2) ?_
    rw [e0, ← hsw64, (word_parts .f64 _ e1).1, hdiv]
  · exfalso
    have : isNan .f32 x = true := by
      show (FloatKind.f32.format.read x).isNaN = true
      rw [h2]; rfl
    rw [hn] at this; cases this

theorem fconv_wide {x : Nat} (hx : x < 2 ^ 32) : fconv .f32 .f64 x = some (fwide x) := by
  unfold fwide
  cases hn : isNan .f32 x
  · obtain ⟨r, h, _⟩ := widen hx hn
    rw [h]; rfl
  · unfold fconv
    rw [hn]; rfl

end Go.Fw
