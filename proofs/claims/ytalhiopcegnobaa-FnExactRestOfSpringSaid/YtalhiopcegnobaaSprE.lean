/- Springs: flushing, and one step of a spring. No condition. -/
import Derived.Test.YtalhiopcegnobaaSprD
namespace Go.Fw.Spr
open Go.Fw Go.Proofs

def m42 : FM := { ps := [.ro false F32], res := .one false .bool, run := fun x => some (sub32 x.1) }
theorem ok42 : FmOK Try.prog 42 m42 := FmOK.made allA.env Try.func42 (by kernel_rfl) (.none (by kernel_rfl)) fun ds out ho hr => by
  obtain ⟨x, ⟨⟩⟩ := ds
  exact (eval42 x ho.1).trans hr

/-- The first number with the second one's sign. -/
def sign64 (x s : Nat) : Nat := canon .f64 (s / 2 ^ 63 * 2 ^ 63 + x % 2 ^ 63)
theorem eval68 (x s : Nat) (hx : okF .f64 x) (hs : okF .f64 s) (nx : isNan .f64 x = false) (ns : isNan .f64 s = false) :
    evalF (env envA) noL Try.f68 [.ro false F64, .ro false F64] (.one false F64) (x, s, ()) = some (sign64 x s) := by
  have lx : x < 2 ^ 64 := hx.lt
  have ls : s < 2 ^ 64 := hs.lt
  rw [e68, nx, ns]
  simp only [cond_false, Option.bind_some]
  have h1 := andNot63 x lx
  have h2 := and63 s ls
  rw [show ((9223372036854775808 : Int)) = 2 ^ 63 by decide, h1, h2]
  have hm : x % 2 ^ 63 < 2 ^ 63 := Nat.mod_lt _ (by decide)
  have hq : s / 2 ^ 63 < 2 := Nat.div_lt_of_lt_mul (by omega)
  have h3 : ior .u64 ((x % 2 ^ 63 : Nat) : Int) ((s / 2 ^ 63 * 2 ^ 63 : Nat) : Int) = (((x % 2 ^ 63) ||| (s / 2 ^ 63 * 2 ^ 63) : Nat) : Int) := u64_or_nat _ _ (by omega) (by omega)
  rw [h3, Nat.or_comm, nat_join 63 _ _ (Nat.mul_mod_left _ _) hm]
  rfl
def m68 : FM := { ps := [.ro false F64, .ro false F64], res := .one false F64, run := fun x => bif isNan .f64 x.1 || isNan .f64 x.2.1 then none else some (sign64 x.1 x.2.1) }
theorem ok68 : FmOK Try.prog 68 m68 := FmOK.made allA.env Try.func68 (by kernel_rfl) (.none (by kernel_rfl)) fun ds out ho hr => by
  obtain ⟨x, s, ⟨⟩⟩ := ds
  have hr : (bif isNan .f64 x || isNan .f64 s then none else some (sign64 x s)) = some out := hr
  cases h1 : isNan .f64 x <;> cases h2 : isNan .f64 s <;> rw [h1, h2] at hr
  · exact (eval68 x s ho.1 ho.2.1 h1 h2).trans hr
  · cases hr
  · cases hr
  · cases hr
def m78 : FM := { ps := [.ro false (.int .i64)], res := .one false F32, run := fun n => some (canon .f32 (iconv .u32 n.1).toNat) }
theorem ok78 : FmOK Try.prog 78 m78 := FmOK.made allA.env Try.func78 (by kernel_rfl) (.none (by kernel_rfl)) fun ds out _ hr => by
  obtain ⟨n, ⟨⟩⟩ := ds
  exact (e78 n).trans hr
def envB : List (Nat × FM) := (42, m42) :: (68, m68) :: (78, m78) :: envA
theorem allB : AllOK envB := .cons ok42 (.cons ok68 (.cons ok78 allA))

theorem e57 (x : Nat) : evalF (env envB) noL Try.f57 [.ro false F32] (.one false F32) (x, ()) =
    bif sub32 x then (fconv .f32 .f64 x).bind fun a => (bif isNan .f64 0 || isNan .f64 a then none else some (sign64 0 a)).bind fun c => (fconv .f64 .f32 c).bind fun r => some r else some x := by kernel_rfl
theorem e66 (x : Nat) : evalF (env envB) noL Try.f66 [.ro false F32] (.one false F32) (x, ()) =
    bif ieq (iand .i64 (bits32 x) 2139095040) 0 then some (canon .f32 (iconv .u32 (iand .i64 (bits32 x) 2147483648)).toNat) else some x := by kernel_rfl

/-- Subnormal numbers become zeros of their sign. -/
def flush (x : Nat) : Nat := bif sub32 x then x / 2 ^ 31 * 2 ^ 31 else x

theorem back64 (q : Nat) (hq : q < 2) : fconv .f64 .f32 (canon .f64 (q * 2 ^ 63 + 0 % 2 ^ 63)) = some (q * 2 ^ 31) := by
  rcases Nat.lt_or_ge q 1 with h1 | h1
  · rw [show q = 0 by omega]; decide +kernel
  · rw [show q = 1 by omega]; decide +kernel
theorem zero_num : isNan .f64 0 = false := by decide +kernel
theorem sub_num {x : Nat} (hs : sub32 x = true) : isNan .f32 x = false := by
  cases hn : isNan .f32 x
  · rfl
  · have h1 := nan_rung hn
    unfold sub32 at hs
    rw [Bool.and_eq_true, decide_eq_true_eq, decide_eq_true_eq] at hs
    omega

theorem eval57 (x : Nat) (h : okF .f32 x) : evalF (env envB) noL Try.f57 [.ro false F32] (.one false F32) (x, ()) = some (flush x) := by
  refine (e57 x).trans ?_
  unfold flush
  cases hs : sub32 x
  · rw [cond_false, cond_false]
  · obtain ⟨a, ha, hna, _, hda⟩ := widen h.lt (sub_num hs)
    have hq : x / 2 ^ 31 < 2 := Nat.div_lt_of_lt_mul h.lt
    rw [cond_true, cond_true, ha, Option.bind_some, zero_num, hna, Bool.or_self, cond_false, Option.bind_some]
    unfold sign64
    rw [hda, back64 _ hq, Option.bind_some]

theorem bits32_eq {z : Nat} (hz : okF .f32 z) : bits32 z = (z : Int) := by
  unfold bits32
  cases hn : isNan .f32 z
  · rfl
  · rw [hz.nan hn]; rfl

theorem iand64 (a b : Nat) (ha : a < 2 ^ 63) (hb : b < 2 ^ 63) : iand .i64 (a : Int) (b : Int) = ((a &&& b : Nat) : Int) := by
  show IntKind.i64.wrap ((BitVec.ofInt 64 (a : Int) &&& BitVec.ofInt 64 (b : Int)).toNat : Int) = _
  rw [BitVec.toNat_and, ofInt_u64 a (by omega), ofInt_u64 b (by omega), IntKind.wrap_i64]
  have : a &&& b ≤ a := Nat.and_le_left
  omega

theorem eval66 (x : Nat) (h : okF .f32 x) : evalF (env envB) noL Try.f66 [.ro false F32] (.one false F32) (x, ()) = some (flush x) := by
  have lx : x < 2 ^ 32 := h.lt
  rw [e66, bits32_eq h]
  have h1 : iand .i64 (x : Int) 2139095040 = ((x &&& 2139095040 : Nat) : Int) := iand64 x 2139095040 (by omega) (by decide)
  have h2 : iand .i64 (x : Int) 2147483648 = ((x &&& 2147483648 : Nat) : Int) := iand64 x 2147483648 (by omega) (by decide)
  rw [h1, h2]
  have e1 : x &&& 2139095040 = x % 2 ^ 31 / 2 ^ 23 * 2 ^ 23 := nat_midmask 31 23 x (by decide)
  have e2 : x &&& 2147483648 = x / 2 ^ 31 * 2 ^ 31 := by
    have := nat_bit 31 x
    rw [show x / 2 ^ 31 % 2 = x / 2 ^ 31 by omega] at this
    exact this
  rw [e1, e2]
  have hz : ieq ((x % 2 ^ 31 / 2 ^ 23 * 2 ^ 23 : Nat) : Int) 0 = decide (x % 2 ^ 31 < 2 ^ 23) := by
    unfold ieq
    rw [Bool.eq_iff_iff]
    simp only [beq_iff_eq, decide_eq_true_eq]
    omega
  rw [hz]
  have hq : x / 2 ^ 31 < 2 := Nat.div_lt_of_lt_mul (by omega)
  have hc : canon .f32 (iconv .u32 ((x / 2 ^ 31 * 2 ^ 31 : Nat) : Int)).toNat = x / 2 ^ 31 * 2 ^ 31 := by
    rcases Nat.lt_or_ge (x / 2 ^ 31) 1 with h1 | h1
    · rw [show x / 2 ^ 31 = 0 by omega]; decide +kernel
    · rw [show x / 2 ^ 31 = 1 by omega]; decide +kernel
  rw [hc]
  unfold flush sub32
  by_cases h3 : x % 2 ^ 31 < 2 ^ 23
  · rw [decide_eq_true h3]
    by_cases h0 : x % 2 ^ 31 = 0
    · rw [decide_eq_false (fun h => h h0)]
      simp only [cond_true, Bool.false_and, cond_false]
      congr 1
      omega
    · rw [decide_eq_true h0]; rfl
  · rw [decide_eq_false h3]
    simp

def mFl : FM := { ps := [.ro false F32], res := .one false F32, run := fun x => some (flush x.1) }
theorem ok57 : FmOK Try.prog 57 mFl := FmOK.made allB.env Try.func57 (by kernel_rfl) (.none (by kernel_rfl)) fun ds out ho hr => by
  obtain ⟨x, ⟨⟩⟩ := ds
  exact (eval57 x ho.1).trans hr
theorem ok66 : FmOK Try.prog 66 mFl := FmOK.made allB.env Try.func66 (by kernel_rfl) (.none (by kernel_rfl)) fun ds out ho hr => by
  obtain ⟨x, ⟨⟩⟩ := ds
  exact (eval66 x ho.1).trans hr

/-- The two numbers are one: nothing is said of others. -/
theorem e50 (x : Nat) : evalF (env envB) noL Try.f50 [.ro false F64, .ro false F64] (.one false .bool) (x, x, ()) =
    bif !feq .f64 x x then (bif !feq .f64 x x then some (!feq .f64 x x) else some false) else bif !feq .f64 x x then (bif !feq .f64 x x then some (!feq .f64 x x) else some false) else
      bif feq .f64 x 0 then (bif feq .f64 x 0 then some (fgt .f64 (fdiv .f64 4607182418800017408 x) 0 == fgt .f64 (fdiv .f64 4607182418800017408 x) 0) else some (feq .f64 x x)) else some (feq .f64 x x) := by kernel_rfl
theorem eval50 (x : Nat) : evalF (env envB) noL Try.f50 [.ro false F64, .ro false F64] (.one false .bool) (x, x, ()) = some true := by
  rw [e50]
  cases feq .f64 x x <;> cases feq .f64 x 0 <;> simp
def m50 : FM := { ps := [.ro false F64, .ro false F64], res := .one false .bool, run := fun x => bif Nat.beq x.1 x.2.1 then some true else none }
theorem ok50 : FmOK Try.prog 50 m50 := FmOK.made allB.env Try.func50 (by kernel_rfl) (.none (by kernel_rfl)) fun ds out _ hr => by
  obtain ⟨x, y, ⟨⟩⟩ := ds
  obtain ⟨h1, h2⟩ := bif_some hr
  have e : x = y := Nat.eq_of_beq_eq_true h1
  subst e
  exact (eval50 x).trans h2
def envC : List (Nat × FM) := (57, mFl) :: (66, mFl) :: (50, m50) :: envB
theorem allC : AllOK envC := .cons ok57 (.cons ok66 (.cons ok50 allB))
end Go.Fw.Spr
