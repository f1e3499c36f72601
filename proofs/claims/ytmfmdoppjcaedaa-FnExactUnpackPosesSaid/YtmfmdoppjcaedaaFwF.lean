/- The abstract interpreter, its soundness, and plain facts: part 6. No condition. -/
import Derived.Test.YtmfmdoppjcaedaaFwE
/- Numbers of single precision that are near to rational ones. No condition. -/
set_option linter.unusedVariables false
set_option linter.unusedSimpArgs false
namespace Go.Fw
open Ieee

def u32 : Rat := 1 / 16777216
def e32 : Rat := 1 / 713623846352979940529142984724747568191373312

/-- x is a finite number, at most e away from a. -/
def Ap (x : Nat) (a e : Rat) : Prop := fin .f32 x ∧ Near (R .f32 x) a e

theorem Ap.mono {x : Nat} {a e f : Rat} (h : Ap x a e) (hf : e ≤ f) : Ap x a f := ⟨h.1, h.2.mono hf⟩
theorem Ap.self {x : Nat} (h : fin .f32 x) : Ap x (R .f32 x) 0 := ⟨h, Near.refl (by decide)⟩
theorem Ap.inn {x : Nat} {a e A : Rat} (h : Ap x a e) (hA : In a A) : In (R .f32 x) (A + e) := hA.near h.2

def big32 : Rat := 1329227995784915872903807060280344576
theorem big_top : big32 ≤ w2 (top .f32) := by decide +kernel

section
variable {x y : Nat} {a b e f A B M : Rat}

theorem Ap.add (hx : Ap x a e) (hy : Ap y b f) (hM : In (a + b) M) (hb : M + e + f ≤ big32) : Ap (fadd .f32 x y) (a + b) (e + f + (M + e + f) * u32) := by
  have hn : Near (R .f32 x + R .f32 y) (a + b) (e + f) := ⟨by have := hx.2.1; have := hy.2.1; grind, by have := hx.2.2; have := hy.2.2; grind⟩
  have hin := hM.near hn
  obtain ⟨h1, h2⟩ := add_R hx.1 hy.1 (M := M + e + f) (hin.mono (by grind)) (Rat.le_trans hb big_top)
  rw [un32] at h2
  exact ⟨h1, (h2.trans hn).mono (by unfold u32; grind)⟩
theorem Ap.sub (hx : Ap x a e) (hy : Ap y b f) (hM : In (a - b) M) (hb : M + e + f ≤ big32) : Ap (fsub .f32 x y) (a - b) (e + f + (M + e + f) * u32) := by
  have hn : Near (R .f32 x - R .f32 y) (a - b) (e + f) := ⟨by have := hx.2.1; have := hy.2.2; grind, by have := hx.2.2; have := hy.2.1; grind⟩
  have hin := hM.near hn
  obtain ⟨h1, h2⟩ := sub_R hx.1 hy.1 (M := M + e + f) (hin.mono (by grind)) (Rat.le_trans hb big_top)
  rw [un32] at h2
  exact ⟨h1, (h2.trans hn).mono (by unfold u32; grind)⟩
theorem near_mul (hx : Near a b e) {c d : Rat} (hy : Near c d f) (hA : In b A) (hB : In d B) : Near (a * c) (b * d) (A * f + B * e + e * f) := by
  have h1 : In (a - b) e := ⟨by have := hx.1; grind, by have := hx.2; grind⟩
  have h2 : In (c - d) f := ⟨by have := hy.1; grind, by have := hy.2; grind⟩
  have h3 := hA.mul h2
  have h4 := h1.mul hB
  have h5 := h1.mul h2
  exact ⟨by have := h3.1; have := h4.1; have := h5.1; grind, by have := h3.2; have := h4.2; have := h5.2; grind⟩
theorem Ap.mul (hx : Ap x a e) (hy : Ap y b f) (hA : In a A) (hB : In b B) (hM : In (a * b) M) (hb : M + (A * f + B * e + e * f) ≤ big32) :
    Ap (fmul .f32 x y) (a * b) (A * f + B * e + e * f + (M + (A * f + B * e + e * f)) * u32 + e32) := by
  have hn := near_mul hx.2 hy.2 hA hB
  have hin := hM.near hn
  obtain ⟨h1, h2⟩ := mul_R hx.1 hy.1 hin (Rat.le_trans hb big_top)
  rw [un32] at h2
  have := et_le .f32
  exact ⟨h1, (h2.trans hn).mono (by unfold u32 e32; grind)⟩
end

theorem mant32 {x : Nat} (hf : fin .f32 x) : ∃ m a : Nat, R .f32 x = sgR (sg .f32 x) ((m : Rat) * w2 (-149 + a)) ∧ m < 2 ^ 24 ∧ (a = 0 ∨ 2 ^ 23 ≤ m) ∧ a ≤ 253 := by
  have hB : FloatKind.f32.format.binade = 2 ^ 23 := rfl
  have hI : FloatKind.f32.format.infRung = 255 * FloatKind.f32.format.binade := rfl
  have hL : FloatKind.f32.format.leastPlace = -149 := rfl
  obtain ⟨m, a, hr, e⟩ := R_read hf
  refine ⟨m, a, e, ?_⟩
  rcases read_cases FloatKind.f32.format x with ⟨h1, h2⟩ | ⟨h0, h1, h2⟩ | ⟨_, h2⟩ | ⟨_, t, h2⟩
  · rw [hr] at h2
    simp only [Datum.number.injEq] at h2
    omega
  · rw [hr] at h2
    simp only [Datum.number.injEq] at h2
    have hB0 : 0 < FloatKind.f32.format.binade := Nat.two_pow_pos _
    have h3 := Nat.mod_lt (x % FloatKind.f32.format.signWeight) hB0
    have h4 : x % FloatKind.f32.format.signWeight / FloatKind.f32.format.binade < 255 := Nat.div_lt_of_lt_mul (by rw [Nat.mul_comm, ← hI]; exact h1)
    omega
  · rw [hr] at h2; cases h2
  · rw [hr] at h2; cases h2

/-- Doubling is exact. -/
theorem double_E {x : Nat} (hf : fin .f32 x) (h : In (R .f32 x) big32) : fin .f32 (fmul .f32 x 1073741824) ∧ R .f32 (fmul .f32 x 1073741824) = R .f32 x * 2 := by
  obtain ⟨m, a, e, h1, h2, h3⟩ := mant32 hf
  have two : fin .f32 1073741824 ∧ R .f32 1073741824 = 2 := by
    constructor
    · show 1073741824 % FloatKind.f32.format.signWeight < FloatKind.f32.format.infRung; decide
    · decide +kernel
  have ha : a ≤ 250 := by
    refine Nat.le_of_not_lt fun hl => ?_
    have h4 : 2 ^ 23 ≤ m := by omega
    have h5 : ((2 ^ 23 : Nat) : Rat) ≤ (m : Rat) := Rat.natCast_le_natCast.2 h4
    rw [← w2_nat] at h5
    have h6 := Rat.mul_le_mul_of_nonneg_right h5 (Rat.le_of_lt (w2_pos (-149 + (a : Int))))
    rw [← w2_add] at h6
    have h7 : w2 121 ≤ w2 ((23 : Nat) + (-149 + (a : Int))) := w2_le (by omega)
    have h8 : big32 < w2 121 := by decide +kernel
    rw [e] at h
    have h9 := h.sgR (Rat.mul_nonneg Rat.natCast_nonneg (Rat.le_of_lt (w2_pos _)))
    grind
  obtain ⟨t, t1, t2⟩ := rep_R .f32 (if sg .f32 x then -(m : Int) else m) (-149 + a + 1) (by
      have : 2 * FloatKind.f32.format.binade = 2 ^ 24 := rfl
      split <;> omega) (by
      have : FloatKind.f32.format.leastPlace = -149 := rfl
      omega) (by
      have : FloatKind.f32.format.fractionBits = 23 := rfl
      have : top .f32 = 127 := rfl
      omega)
  have ht : R .f32 x * R .f32 1073741824 = R .f32 t := by
    rw [two.2, e, t2, w2_add (-149 + (a : Int)) 1, w2_one]
    cases sg .f32 x
    · simp only [sgR, Bool.false_eq_true, if_false, Rat.intCast_natCast]; grind
    · simp only [sgR, if_true, Rat.intCast_neg, Rat.intCast_natCast]; grind
  obtain ⟨r1, r2⟩ := mul_E hf two.1 t1 ht
  exact ⟨r1, by rw [r2, two.2]⟩

theorem Ap.double {x : Nat} {a e A : Rat} (h : Ap x a e) (hA : In a A) (hb : A + e ≤ big32) : Ap (fmul .f32 x 1073741824) (a * 2) (2 * e) := by
  obtain ⟨h1, h2⟩ := double_E h.1 ((h.inn hA).mono hb)
  refine ⟨h1, ?_⟩
  rw [h2]
  have := h.2.1
  have := h.2.2
  exact ⟨by grind, by grind⟩

/-! ### vectors of rational numbers -/
def NB (x y z A : Rat) : Prop := x * x + y * y + z * z ≤ A * A ∧ 0 ≤ A

theorem sq_nn (a : Rat) : 0 ≤ a * a := by
  rcases Rat.le_total (a := 0) (b := a) with h | h
  · exact Rat.mul_nonneg h h
  · have := Rat.mul_nonneg (a := -a) (b := -a) (by grind) (by grind)
    grind

theorem In.sq {a A : Rat} (h : In a A) : a * a ≤ A * A := (h.mul h).2
theorem In.of_sq {a A : Rat} (h : a * a ≤ A * A) (hA : 0 ≤ A) : In a A := by
  refine ⟨?_, le_of_sq hA h⟩
  have := le_of_sq (a := -a) hA (by grind)
  grind

theorem NB.comp {x y z A : Rat} (h : NB x y z A) : In x A ∧ In y A ∧ In z A := by
  have := sq_nn x; have := sq_nn y; have := sq_nn z; have := h.1
  exact ⟨In.of_sq (by grind) h.2, In.of_sq (by grind) h.2, In.of_sq (by grind) h.2⟩
theorem NB.of {x y z e : Rat} (hx : In x e) (hy : In y e) (hz : In z e) : NB x y z (17321 / 10000 * e) := by
  have h0 : 0 ≤ e := by have := hx.1; have := hx.2; grind
  have := hx.sq; have := hy.sq; have := hz.sq; have := Rat.mul_nonneg h0 h0
  exact ⟨by grind, by grind⟩
theorem NB.mono {x y z A B : Rat} (h : NB x y z A) (hB : A ≤ B) : NB x y z B := ⟨Rat.le_trans h.1 (sq_le h.2 hB), Rat.le_trans h.2 hB⟩

theorem NB.inner {x y z x' y' z' A B : Rat} (h : NB x y z A) (h' : NB x' y' z' B) : In (x * x' + y * y' + z * z') (A * B) := by
  refine In.of_sq ?_ (Rat.mul_nonneg h.2 h'.2)
  have e : (x * x' + y * y' + z * z') * (x * x' + y * y' + z * z') + ((y * z' - z * y') * (y * z' - z * y') + (z * x' - x * z') * (z * x' - x * z') + (x * y' - y * x') * (x * y' - y * x'))
      = (x * x + y * y + z * z) * (x' * x' + y' * y' + z' * z') := by grind
  have p1 := sq_nn (y * z' - z * y'); have p2 := sq_nn (z * x' - x * z'); have p3 := sq_nn (x * y' - y * x')
  have q0 : 0 ≤ x' * x' + y' * y' + z' * z' := by have := sq_nn x'; have := sq_nn y'; have := sq_nn z'; grind
  have q1 := Rat.mul_le_mul_of_nonneg_right h.1 q0
  have q2 := Rat.mul_le_mul_of_nonneg_left h'.1 (Rat.mul_nonneg h.2 h.2)
  grind
theorem NB.add {x y z x' y' z' A B : Rat} (h : NB x y z A) (h' : NB x' y' z' B) : NB (x + x') (y + y') (z + z') (A + B) := by
  have h1 := h.1; have h2 := h'.1; have h3 := (h.inner h').2
  refine ⟨?_, by have := h.2; have := h'.2; grind⟩
  have e1 : (x + x') * (x + x') + (y + y') * (y + y') + (z + z') * (z + z') = (x * x + y * y + z * z) + (x' * x' + y' * y' + z' * z') + 2 * (x * x' + y * y' + z * z') := by grind
  have e2 : (A + B) * (A + B) = A * A + B * B + 2 * (A * B) := by grind
  rw [e1, e2]; grind
theorem NB.neg {x y z A : Rat} (h : NB x y z A) : NB (-x) (-y) (-z) A := ⟨by have := h.1; grind, h.2⟩
end Go.Fw
/- Whole numbers, the greater and the less of two, as rational numbers. No condition. -/
set_option linter.unusedVariables false
set_option linter.unusedSimpArgs false
namespace Go.Fw
open Ieee

theorem fofInt_R {n : Int} (h : n.natAbs < 9007199254740992) : fin .f64 (fofInt .f64 n) ∧ R .f64 (fofInt .f64 n) = (n : Rat) := by
  have hb : (n.natAbs : Rat) * w2 0 ≤ w2 (top .f64) := by
    have h1 : (n.natAbs : Rat) ≤ ((9007199254740992 : Nat) : Rat) := Rat.natCast_le_natCast.2 (by omega)
    have h2 : ((9007199254740992 : Nat) : Rat) = w2 53 := by decide +kernel
    have h3 : w2 53 ≤ w2 (top .f64) := w2_le (by decide)
    rw [w2_zero]; grind
  obtain ⟨f1, _, v, _, f3, _, f5⟩ := round_R .f64 (decide (n < 0)) n.natAbs 0 hb
  have e : fofInt .f64 n = FloatKind.f64.format.nearest (decide (n < 0)) n.natAbs 0 := rfl
  rw [e]
  refine ⟨f1, ?_⟩
  rw [f3, f5 (by show n.natAbs < 2 ^ 53; omega) (by decide), w2_zero]
  by_cases h0 : n < 0
  · rw [decide_eq_true h0, if_pos rfl, intR_neg h0]; grind
  · rw [decide_eq_false h0, intR_nonneg (by omega)]
    simp

end Go.Fw
