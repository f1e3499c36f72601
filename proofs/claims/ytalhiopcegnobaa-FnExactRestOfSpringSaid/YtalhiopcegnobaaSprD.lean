/- Springs: numbers that are flushed. No condition. -/
import Derived.Test.YtalhiopcegnobaaSprW
import Derived.Test.YtalhiopcegnobaaFwFlt2
namespace Go.Fw.Spr
open Go.Fw Go.Proofs

theorem ok75 : FmOK Try.prog 75 (mFrom .f64 .u64) := FmOK.from (e := Extern.MathFloatBits.float64frombits) Try.func75 (by kernel_rfl) rfl (by kernel_rfl) (by kernel_rfl) (fun _ _ => rfl) (by decide) (by decide)
theorem ok85 : FmOK Try.prog 85 (mFrom .f32 .u32) := FmOK.from (e := Extern.MathFloatBits.float32frombits) Try.func85 (by kernel_rfl) rfl (by kernel_rfl) (by kernel_rfl) (fun _ _ => rfl) (by decide) (by decide)

theorem andNot63 (b : Nat) (h : b < 2 ^ 64) : iandNot .u64 b (2 ^ 63) = ((b % 2 ^ 63 : Nat) : Int) := by
  have := u64_andNot_nat b (2 ^ 63) (by omega) (by decide)
  have e : ((2 ^ 63 : Nat) : Int) = 2 ^ 63 := by decide
  rw [e] at this
  refine Eq.trans this ?_
  rw [show (18446744073709551615 - 2 ^ 63 : Nat) = 2 ^ 63 - 1 by decide, Nat.and_two_pow_sub_one_eq_mod]
theorem and63 (b : Nat) (h : b < 2 ^ 64) : iand .u64 b (2 ^ 63) = ((b / 2 ^ 63 * 2 ^ 63 : Nat) : Int) := by
  have := u64_and_nat b (2 ^ 63) (by omega) (by decide)
  have e : ((2 ^ 63 : Nat) : Int) = 2 ^ 63 := by decide
  rw [e] at this
  refine Eq.trans this ?_
  rw [nat_bit, show b / 2 ^ 63 % 2 = b / 2 ^ 63 by omega]

def m62 : FM := { ps := [.ro false F64], res := .one false F64, run := fun x => some (abs64 x.1) }
theorem ok62 : FmOK Try.prog 62 m62 := by
  intro w args ds out ha hr
  obtain ⟨v, rfl, b, e', hrel⟩ := arg1 ha
  have e' : v = .float .f64 b := by simpa using e'
  subst e'
  have hr : abs64 ds.1 = out := Option.some.inj hr
  have hb : b < 2 ^ 64 := hrel.1
  have hcall := abs_any b w
  rw [andNot63 b hb] at hcall
  refine Lands.of_calls Try.func62 rfl (by kernel_rfl) (hcall.mono ?_)
  rintro e w' ⟨rfl, rfl⟩
  refine ⟨_, rfl, Ext.refl _, fun _ => False, ⟨[.float .f64 (b % 2 ^ 63)], nofun, fun _ => rfl, ?_⟩, fun c hc => hc.elim⟩
  refine ⟨b % 2 ^ 63, rfl, ?_⟩
  rw [← hr]
  have hlt : b % 2 ^ 63 < 2 ^ FloatKind.f64.format.width := Nat.lt_trans (Nat.mod_lt _ (by decide)) (by decide)
  have := FRel.mk' hlt
  have e : Fw.canon .f64 (b % 2 ^ 63) = abs64 ds.1 := by
    unfold abs64
    cases hn : isNan .f64 ds.1
    · rw [hrel.eq hn]
    · have hbn : isNan .f64 b = true := hrel.isNan.symm.trans hn
      have hm : ∀ z, isNan .f64 (z % 2 ^ 63) = isNan .f64 z := fun z => isNan_mod .f64 _ _ (by
        show z % 2 ^ 63 % 2 ^ 63 = z % 2 ^ 63
        exact Nat.mod_mod _ _)
      rw [canon_nan (by rw [hm]; exact hbn), canon_nan (by rw [hm]; exact hn)]
  rw [← e]; exact this

def envA : List (Nat × FM) := (75, mFrom .f64 .u64) :: (85, mFrom .f32 .u32) :: (62, m62) :: env5
theorem allA : AllOK envA := .cons ok75 (.cons ok85 (.cons ok62 all5))

theorem e42 (x : Nat) : evalF (env envA) noL Try.f42 [.ro false F32] (.one false .bool) (x, ()) = bif !feq .f32 x 0 then (fconv .f32 .f64 x).bind fun a => some (flt .f64 (abs64 a) least32) else some false := by kernel_rfl
theorem e68 (x s : Nat) : evalF (env envA) noL Try.f68 [.ro false F64, .ro false F64] (.one false F64) (x, s, ()) =
    (bif isNan .f64 x then none else some (x : Int)).bind fun n => (bif isNan .f64 s then none else some (s : Int)).bind fun t => some (canon .f64 (ior .u64 (iandNot .u64 n 9223372036854775808) (iand .u64 t 9223372036854775808)).toNat) := by kernel_rfl
theorem e78 (n : Int) : evalF (env envA) noL Try.f78 [.ro false (.int .i64)] (.one false F32) (n, ()) = some (canon .f32 (iconv .u32 n).toNat) := by kernel_rfl

/-- Not zero, and subnormal. -/
def sub32 (x : Nat) : Bool := decide (x % 2 ^ 31 ≠ 0) && decide (x % 2 ^ 31 < 2 ^ 23)
theorem nan_rung {x : Nat} (h : isNan .f32 x = true) : 2139095040 < x % 2 ^ 31 := by
  have h1 : (FloatKind.f32.format.read x).isNaN = true := h
  have hsw : FloatKind.f32.format.signWeight = 2 ^ 31 := rfl
  have hI : FloatKind.f32.format.infRung = 2139095040 := rfl
  rcases read_cases FloatKind.f32.format x with ⟨_, h2⟩ | ⟨_, _, h2⟩ | ⟨_, h2⟩ | ⟨h3, _⟩
  · rw [h2] at h1; cases h1
  · rw [h2] at h1; cases h1
  · rw [h2] at h1; cases h1
  · rw [hsw, hI] at h3; exact h3
theorem feq_zero {x : Nat} (hx : x < 2 ^ 32) : feq .f32 x 0 = decide (x % 2 ^ 31 = 0) := by
  cases hf : feq .f32 x 0
  · cases hn : isNan .f32 x
    · by_cases h : x % 2 ^ 31 = 0
      · exfalso
        rcases zero_cases hx h with rfl | rfl
        · revert hf; decide +kernel
        · revert hf; decide +kernel
      · simp [h]
    · have := nan_rung hn
      rw [decide_eq_false (by omega)]
  · rcases feq_spec (k := .f32) hx (by decide) hf with h | ⟨h, _⟩
    · subst h; rfl
    · have hsw : FloatKind.f32.format.signWeight = 2 ^ 31 := rfl
      rw [hsw] at h
      rw [decide_eq_true h]
theorem eval42 (x : Nat) (h : okF .f32 x) : evalF (env envA) noL Try.f42 [.ro false F32] (.one false .bool) (x, ()) = some (sub32 x) := by
  have hx : x < 2 ^ 32 := h.lt
  rw [e42, feq_zero hx]
  unfold sub32
  by_cases h0 : x % 2 ^ 31 = 0
  · simp [h0]
  · rw [decide_eq_false h0, decide_eq_true h0]
    simp only [Bool.not_false, cond_true, Bool.true_and]
    cases hn : isNan .f32 x
    · obtain ⟨r, hr, _⟩ := widen hx hn
      rw [hr]
      exact congrArg some (small_iff hn h0 hr)
    · have := nan_rung hn
      have e : fconv .f32 .f64 x = some (qnan .f64) := by unfold fconv; rw [hn]; rfl
      rw [e, decide_eq_false (by omega)]
      have : abs64 (qnan .f64) = qnan .f64 := by decide +kernel
      rw [Option.bind_some, this, flt_nan (isNan_qnan .f64)]
end Go.Fw.Spr
