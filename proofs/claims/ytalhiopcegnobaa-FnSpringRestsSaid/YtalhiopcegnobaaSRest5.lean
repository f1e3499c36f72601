/- Springs as words: their steps are near to those of numbers. No condition. -/
import Derived.Test.YtalhiopcegnobaaSEq8
import Derived.Test.YtalhiopcegnobaaSRest2
set_option linter.unusedVariables false
set_option linter.unusedSimpArgs false
namespace Go.Fw
open Ieee

/-- A word of a small number is a number. -/
theorem fin_small {x : Nat} (h : In (R1 x) 1048576) : fin .f32 x := by
  refine Classical.byContradiction fun hn => ?_
  unfold fin at hn
  obtain ⟨K, hK⟩ : ∃ K : Nat, K = 277 := ⟨_, rfl⟩
  have hm := mag_mono (B := FloatKind.f32.format.binade) (Nat.two_pow_pos _) (Nat.not_lt.1 hn)
  rw [mag_inf_log .f32 K hK] at hm
  have h1 : ((2 ^ K : Nat) : Rat) ≤ (V .f32 x : Rat) := Rat.natCast_le_natCast.2 hm
  have h2 := Rat.mul_le_mul_of_nonneg_right h1 (Rat.le_of_lt (w2_pos FloatKind.f32.format.leastPlace))
  have h3 : (1048577 : Rat) ≤ ((2 ^ K : Nat) : Rat) * w2 FloatKind.f32.format.leastPlace := by
    rw [← w2_nat, ← w2_add, hK]; decide +kernel
  have h4 := Rat.le_trans h3 h2
  have h5 := h.1
  have h6 := h.2
  clear h h1 h2 h3 hm hn
  have hR : R1 x = sgR (sg .f32 x) ((V .f32 x : Rat) * w2 FloatKind.f32.format.leastPlace) := R_V .f32 x
  rw [hR] at h5 h6
  generalize (V .f32 x : Rat) * w2 FloatKind.f32.format.leastPlace = v at *
  generalize sg .f32 x = b at *
  cases b
  · have e : sgR false v = v := rfl
    grind
  · have e : sgR true v = -v := rfl
    grind

def U : Rat := 85070591730234615865843651857942052864

/-- What is flushed. -/
theorem flush_F {x : Nat} (hx : okF .f32 x) : Fl (R1 x * U) (R1 (flush x) * U) ∧ (sub32 x = false → flush x = x) := by
  have hsw : FloatKind.f32.format.signWeight = 2 ^ 31 := rfl
  have hbin : FloatKind.f32.format.binade = 2 ^ 23 := rfl
  have hR : R1 x = sgR (sg .f32 x) ((V .f32 x : Rat) * w2 FloatKind.f32.format.leastPlace) := R_V .f32 x
  have hw : w2 FloatKind.f32.format.leastPlace * U = 1 / 8388608 := by decide +kernel
  have hp : R1 x * U = sgR (sg .f32 x) ((V .f32 x : Rat) * (1 / 8388608)) := by
    rw [hR, ← hw]
    cases sg .f32 x
    · show _ * _ * U = _ * (_ * U); grind
    · show -(_ * _) * U = -(_ * (_ * U)); grind
  have hnn : (0 : Rat) ≤ (V .f32 x : Rat) := Rat.natCast_nonneg
  refine ⟨?_, fun h => by unfold flush; rw [h]; rfl⟩
  unfold Fl
  by_cases h0 : x % 2 ^ 31 < 2 ^ 23
  · left
    have hV : V .f32 x = x % 2 ^ 31 := by
      unfold V mag
      rw [hsw, hbin, if_pos h0]
    have hlt : (V .f32 x : Rat) < ((2 ^ 23 : Nat) : Rat) := Rat.natCast_lt_natCast.2 (by rw [hV]; exact h0)
    have e23 : ((2 ^ 23 : Nat) : Rat) = 8388608 := by decide +kernel
    rw [e23] at hlt
    have hz : R1 (flush x) * U = 0 := by
      unfold flush
      cases hs : sub32 x
      · unfold sub32 at hs
        rw [decide_eq_true h0, Bool.and_true, decide_eq_false_iff_not] at hs
        have h1 : x % 2 ^ 31 = 0 := by omega
        rw [cond_f, hp, hV, h1]
        cases sg .f32 x <;> decide +kernel
      · rw [cond_t, (zero_part hx.lt32).2.2.1]
        decide +kernel
    refine ⟨hz, ?_, ?_⟩
    · rw [hp]; cases sg .f32 x
      · show -1 < _ * _; grind
      · show -1 < -(_ * _); grind
    · rw [hp]; cases sg .f32 x
      · show _ * _ < 1; grind
      · show -(_ * _) < 1; grind
  · right
    have hs : sub32 x = false := by
      unfold sub32
      rw [decide_eq_false h0, Bool.and_false]
    have hf : flush x = x := by unfold flush; rw [hs]; rfl
    refine ⟨by rw [hf], ?_⟩
    have hm := mag_mono (B := FloatKind.f32.format.binade) (r := 2 ^ 23) (s := x % 2 ^ 31) (Nat.two_pow_pos _) (by omega)
    have h8 : mag FloatKind.f32.format.binade (2 ^ 23) = 2 ^ 23 := by decide +kernel
    rw [h8] at hm
    have hge : ((2 ^ 23 : Nat) : Rat) ≤ (V .f32 x : Rat) := Rat.natCast_le_natCast.2 hm
    have e23 : ((2 ^ 23 : Nat) : Rat) = 8388608 := by decide +kernel
    rw [e23] at hge
    rw [hp]
    cases sg .f32 x
    · left; show 1 ≤ _ * _; grind
    · right; show -(_ * _) ≤ -1; grind

/-- Before the flush. -/
theorem spring_R {p v s d : Nat} {S : Rat} (op : okF .f32 p) (fp : fin .f32 p) (fv : fin .f32 v) (fs : fin .f32 s) (fd : fin .f32 d) (s0 : 0 ≤ R1 s) (s1 : R1 s ≤ 1) (d0 : 0 ≤ R1 d) (d1 : R1 d ≤ 1) (ip : In (R1 p) S) (iv : In (R1 v) S) (hS : S ≤ 1048576) :
    Ap (fmul .f32 (fadd .f32 v (fmul .f32 s (fsub .f32 0 p))) d) (R1 d * (R1 v - R1 s * R1 p)) (S * (5001 / 1000 * u32) + 21 / 10 * e32) ∧ In (R1 d * (R1 v - R1 s * R1 p)) (2 * S) := by
  have S0 : 0 ≤ S := by have := ip.1; have := ip.2; grind
  have z0 : fin .f32 0 := (fin_dec _ _).2 (by decide +kernel)
  have zR : R .f32 0 = 0 := by decide +kernel
  obtain ⟨n1, n2⟩ := fneg_R op fp
  obtain ⟨a1, a2⟩ := sub_E z0 fp n1 (by rw [n2, zR]; grind)
  have ia : In (R1 (fsub .f32 0 p)) S := by
    unfold R1 at *; rw [a2, zR]; have := ip.1; have := ip.2; exact ⟨by grind, by grind⟩
  have is : In (R1 s) 1 := ⟨by grind, s1⟩
  have id' : In (R1 d) 1 := ⟨by grind, d1⟩
  have isa := (is.mul ia).mono (N := S) (by grind)
  have b := ((Ap.self fs).mul (Ap.self a1) is ia isa (by unfold big32; grind)).mono (f := S * u32 + e32) (by grind)
  have hs := (iv.add isa)
  have c := ((Ap.self fv).add b hs (by unfold big32 u32 e32; grind)).mono (f := S * (30001 / 10000 * u32) + 1001 / 1000 * e32) (by unfold u32 e32; grind)
  have hsd := (hs.mul id').mono (N := 2 * S) (by grind)
  have y := ((c.mul (Ap.self fd) hs id' hsd (by unfold big32 u32 e32; grind))).mono (f := S * (5001 / 1000 * u32) + 21 / 10 * e32) (by unfold u32 e32; grind)
  have e : (R1 v + R1 s * R1 (fsub .f32 0 p)) * R1 d = R1 d * (R1 v - R1 s * R1 p) := by
    have : R1 (fsub .f32 0 p) = -R1 p := by unfold R1; rw [a2, zR]; grind
    rw [this]; grind
  unfold R1 at *
  rw [e] at y hsd
  exact ⟨y, hsd⟩
end Go.Fw
