/- Springs: numbers that are the same. No condition. -/
import Derived.Test.YtalhiopcegnobaaSprA
import Derived.Test.YtalhiopcegnobaaFwFlt
namespace Go.Fw.Spr
open Go.Fw Go.Proofs

/-- Canonical words. -/
abbrev okF (k : FloatKind) (x : Nat) : Prop := (Ty.flt k).ok x
theorem okF.lt {k : FloatKind} {x : Nat} (h : okF k x) : x < 2 ^ k.format.width := h.1
theorem okF.canon {k : FloatKind} {x : Nat} (h : okF k x) : canon k x = x := h.2
theorem okF.nan {k : FloatKind} {x : Nat} (h : okF k x) (hn : isNan k x = true) : x = qnan k := by rw [← h.canon, canon_nan hn]

theorem wrap64 (x : Nat) (h : x < 2 ^ 63) : iconv .i64 (x : Int) = x := by
  unfold iconv
  rw [IntKind.wrap_i64]; omega
theorem neg64_eq (x : Nat) (h : x < 2 ^ 64) : neg64 x = decide (2 ^ 63 ≤ x) := by
  unfold neg64 iconv ilt
  rw [IntKind.wrap_i64]
  congr 1
  simp only [eq_iff_iff]
  omega

theorem eval77 (x : Nat) (h : okF .f32 x) : evalF (env env1) noL Try.f77 [.ro false F32] (.one false (.int .i64)) (x, ()) = some (bits32 x) := by
  rw [e77, feq_self]
  unfold bits32
  cases hn : isNan .f32 x
  · simp only [Bool.not_false, Bool.not_true, cond_false, Option.bind_some]
    rw [wrap64 x (by have := h.lt; have e : FloatKind.f32.format.width = 32 := rfl; rw [e] at this; omega)]
  · rfl

theorem ok77 : FmOK Try.prog 77 m77 := FmOK.made all1.env Try.func77 (by kernel_rfl) (.none (by kernel_rfl)) fun ds out ho hr => by
  obtain ⟨x, ⟨⟩⟩ := ds
  exact (eval77 x ho.1).trans hr
theorem ok56 : FmOK Try.prog 56 m56 := FmOK.made all1.env Try.func56 (by kernel_rfl) (.none (by kernel_rfl)) fun ds out ho hr => by
  obtain ⟨x, ⟨⟩⟩ := ds
  refine (e56 x).trans (Eq.trans ?_ hr)
  show _ = (bif isNan .f64 x then none else some (neg64 x))
  cases isNan .f64 x <;> rfl
theorem all2 : AllOK env2 := .cons ok77 (.cons ok56 all1)

/-- The same number, bit for bit, all not-a-numbers being one. -/
def same (x y : Nat) : Bool := Nat.beq x y
theorem same_iff {x y : Nat} : same x y = true ↔ x = y := ⟨Nat.eq_of_beq_eq_true, fun h => by subst h; exact Nat.beq_refl x⟩

theorem bits_same {x y : Nat} (hx : okF .f32 x) (hy : okF .f32 y) : ieq (bits32 x) (bits32 y) = same x y := by
  have key : ∀ z, okF .f32 z → bits32 z = (z : Int) := fun z hz => by
    unfold bits32
    cases hn : isNan .f32 z
    · rfl
    · rw [hz.nan hn]; rfl
  rw [key x hx, key y hy]
  rw [Bool.eq_iff_iff, same_iff]
  unfold ieq
  simp; omega

theorem zero_cases {x : Nat} (hx : x < 2 ^ 32) (h : x % 2 ^ 31 = 0) : x = 0 ∨ x = 2 ^ 31 := by omega

theorem eval32 (x y : Nat) (hx : okF .f32 x) (hy : okF .f32 y) : evalF (env env2) noL Try.f32 [.ro false F32, .ro false F32] (.one false .bool) (x, y, ()) = some (same x y) := by
  rw [e32]
  rw [feq_self, feq_self]
  have lx : x < 2 ^ 32 := hx.lt
  have ly : y < 2 ^ 32 := hy.lt
  cases nx : isNan .f32 x <;> cases ny : isNan .f32 y <;> simp only [Bool.not_false, Bool.not_true, cond_false, cond_true]
  · obtain ⟨a, ha, hna, hla, hda⟩ := widen lx nx
    obtain ⟨b, hb, hnb, hlb, hdb⟩ := widen ly ny
    rw [ha, hb]
    simp only [Option.bind_some, hna, hnb, cond_false]
    cases he : feq .f32 x y
    · have hne : x ≠ y := fun e => by rw [← e, feq_self, nx] at he; cases he
      have : same x y = false := by
        cases hs : same x y
        · rfl
        · exact absurd (same_iff.1 hs) hne
      rw [this]; rfl
    · simp only [cond_true]
      congr 1
      rw [Bool.eq_iff_iff, same_iff, neg64_eq a hla, neg64_eq b hlb]
      have sa : decide (2 ^ 63 ≤ a) = decide (2 ^ 31 ≤ x) := by
        congr 1; simp only [eq_iff_iff]; omega
      have sb : decide (2 ^ 63 ≤ b) = decide (2 ^ 31 ≤ y) := by
        congr 1; simp only [eq_iff_iff]; omega
      rw [sa, sb]
      rcases feq_spec (k := .f32) hx.lt hy.lt he with h | ⟨h1, h2⟩
      · subst h; simp
      · rcases zero_cases lx h1 with e1 | e1 <;> rcases zero_cases ly h2 with e2 | e2 <;> subst e1 <;> subst e2 <;> decide
  · have : x ≠ y := fun e => by rw [e, ny] at nx; cases nx
    have : same x y = false := by
      cases hs : same x y
      · rfl
      · exact absurd (same_iff.1 hs) this
    rw [this]
  · have : x ≠ y := fun e => by rw [e, ny] at nx; cases nx
    have : same x y = false := by
      cases hs : same x y
      · rfl
      · exact absurd (same_iff.1 hs) this
    rw [this]
  · rw [hx.nan nx, hy.nan ny]; rfl

def m32 : FM := { ps := [.ro false F32, .ro false F32], res := .one false .bool, run := fun x => some (same x.1 x.2.1) }
theorem ok32 : FmOK Try.prog 32 m32 := FmOK.made all2.env Try.func32 (by kernel_rfl) (.none (by kernel_rfl)) fun ds out ho hr => by
  obtain ⟨x, y, ⟨⟩⟩ := ds
  exact (eval32 x y ho.1 ho.2.1).trans hr
theorem ok64 : FmOK Try.prog 64 m32 := FmOK.made all2.env Try.func64 (by kernel_rfl) (.none (by kernel_rfl)) fun ds out ho hr => by
  obtain ⟨x, y, ⟨⟩⟩ := ds
  exact ((e64 x y).trans (congrArg some (bits_same ho.1 ho.2.1))).trans hr
def env3 : List (Nat × FM) := (32, m32) :: (64, m32) :: env2
theorem all3 : AllOK env3 := .cons ok32 (.cons ok64 all2)

abbrev spr : Ty := .pair F32 (.pair F32 (.pair F32 (.pair F32 .unit)))
def sameSpr (a b : spr.D) : Bool := bif same a.1 b.1 then (bif same a.2.1 b.2.1 then (bif same a.2.2.1 b.2.2.1 then same a.2.2.2.1 b.2.2.2.1 else false) else false) else false
def sameSprK (a b : spr.D) : Option Bool := bif same a.1 b.1 then (bif same a.2.1 b.2.1 then (bif same a.2.2.1 b.2.2.1 then some (same a.2.2.2.1 b.2.2.2.1) else some false) else some false) else some false
theorem sameSprK_eq (a b : spr.D) : sameSprK a b = some (sameSpr a b) := by
  unfold sameSprK sameSpr
  cases same a.1 b.1 <;> cases same a.2.1 b.2.1 <;> cases same a.2.2.1 b.2.2.1 <;> rfl
theorem e47 (a b : spr.D) : evalF (env env3) noL Try.f47 [.ro true spr, .ro true spr] (.one false .bool) (a, b, ()) = sameSprK a b := by kernel_rfl
theorem e15 (a b : spr.D) : evalF (env env3) noL Try.f15 [.ro true spr, .ro true spr] (.one false .bool) (a, b, ()) = sameSprK a b := by kernel_rfl
def mSame : FM := { ps := [.ro true spr, .ro true spr], res := .one false .bool, run := fun x => some (sameSpr x.1 x.2.1) }
theorem ok47 : FmOK Try.prog 47 mSame := FmOK.made all3.env Try.func47 (by kernel_rfl) (.none (by kernel_rfl)) fun ds out _ hr => by
  obtain ⟨a, b, ⟨⟩⟩ := ds
  exact ((e47 a b).trans (sameSprK_eq a b)).trans hr
theorem ok15 : FmOK Try.prog 15 mSame := FmOK.made all3.env Try.func15 (by kernel_rfl) (.none (by kernel_rfl)) fun ds out _ hr => by
  obtain ⟨a, b, ⟨⟩⟩ := ds
  exact ((e15 a b).trans (sameSprK_eq a b)).trans hr
theorem e14 (a : spr.D) : evalF (env env3) noL Try.f14 [.ro true spr] (.one true spr) (a, ()) = some (a.1, a.2.1, a.2.2.1, a.2.2.2.1, ()) := by kernel_rfl
def mTo : FM := { ps := [.ro true spr], res := .one true spr, run := fun x => some x.1 }
theorem ok14 : FmOK Try.prog 14 mTo := FmOK.made all3.env Try.func14 (by kernel_rfl) (.none (by kernel_rfl)) fun ds out _ hr => by
  obtain ⟨⟨a, b, c, d, ⟨⟩⟩, ⟨⟩⟩ := ds
  exact (e14 (a, b, c, d, ())).trans hr
def env4 : List (Nat × FM) := (47, mSame) :: (15, mSame) :: (14, mTo) :: env3
theorem all4 : AllOK env4 := .cons ok47 (.cons ok15 (.cons ok14 all3))
theorem e13 (a b : spr.D) : evalF (env env4) noL Try.f13 [.ro true spr, .ro true spr] (.one false .bool) (a, b, ()) = some (sameSpr a b) := by kernel_rfl
theorem ok13 : FmOK Try.prog 13 mSame := FmOK.made all4.env Try.func13 (by kernel_rfl) (.none (by kernel_rfl)) fun ds out _ hr => by
  obtain ⟨a, b, ⟨⟩⟩ := ds
  exact (e13 a b).trans hr
def env5 : List (Nat × FM) := (13, mSame) :: env4
theorem all5 : AllOK env5 := .cons ok13 all4
theorem e3 (a b : spr.D) : evalF (env env5) noL Try.f3 [.ro true spr, .ro true spr] (.one false .bool) (a, b, ()) = bif !(sameSpr a b == sameSpr a b) then some false else some true := by kernel_rfl
theorem eval3 (a b : spr.D) : evalF (env env5) noL Try.f3 [.ro true spr, .ro true spr] (.one false .bool) (a, b, ()) = some true := by
  rw [e3]; cases sameSpr a b <;> rfl
end Go.Fw.Spr
