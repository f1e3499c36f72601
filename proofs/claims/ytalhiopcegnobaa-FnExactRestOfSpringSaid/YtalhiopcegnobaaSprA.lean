/- Springs: the table of types, and the numbers' functions. No condition. -/
import Derived.Test.YtalhiopcegnobaaFwTab
import Derived.Test.YtalhiopcegnobaaProg
import Derived.KernelRfl
namespace Go.Fw.Spr
open Go.Fw Go.Proofs
def tab : List (Nat × TI) := [
  (1, { und := .other, size := 1, bytes := 8, zero := [.undef], ty := .unit }),
  (2, { und := .int .i64, size := 1, bytes := 8, zero := [.int .i64 0], ty := .int .i64 }),
  (3, { und := .int .i64, size := 1, bytes := 8, zero := [.int .i64 0], ty := .int .i64 }),
  (4, { und := .bool, size := 1, bytes := 1, zero := [.bool false], ty := .bool }),
  (5, { und := .int .u8, size := 1, bytes := 1, zero := [.int .u8 0], ty := .int .u8 }),
  (9, { und := .str, size := 1, bytes := 16, zero := [.str ByteArray.empty], ty := .str }),
  (12, { und := .int .u64, size := 1, bytes := 8, zero := [.int .u64 0], ty := .int .u64 }),
  (13, { und := .struct [(0, 9), (1, 12)], size := 2, bytes := 24, zero := [.str ByteArray.empty, .int .u64 0], ty := .pair (.str) (.pair (.int .u64) (.unit)) }),
  (21, { und := .int .i32, size := 1, bytes := 4, zero := [.int .i32 0], ty := .int .i32 }),
  (22, { und := .flt .f32, size := 1, bytes := 4, zero := [.flt .f32 0], ty := .flt .f32 }),
  (23, { und := .struct [(0, 22), (1, 22), (2, 22), (3, 22)], size := 4, bytes := 16, zero := [.flt .f32 0, .flt .f32 0, .flt .f32 0, .flt .f32 0], ty := .pair (.flt .f32) (.pair (.flt .f32) (.pair (.flt .f32) (.pair (.flt .f32) (.unit)))) }),
  (24, { und := .struct [(0, 22), (1, 22), (2, 22), (3, 22)], size := 4, bytes := 16, zero := [.flt .f32 0, .flt .f32 0, .flt .f32 0, .flt .f32 0], ty := .pair (.flt .f32) (.pair (.flt .f32) (.pair (.flt .f32) (.pair (.flt .f32) (.unit)))) }),
  (25, { und := .other, size := 1, bytes := 8, zero := [.undef], ty := .unit }),
  (26, { und := .struct [(0, 22), (1, 22), (2, 22), (3, 22)], size := 4, bytes := 16, zero := [.flt .f32 0, .flt .f32 0, .flt .f32 0, .flt .f32 0], ty := .pair (.flt .f32) (.pair (.flt .f32) (.pair (.flt .f32) (.pair (.flt .f32) (.unit)))) }),
  (27, { und := .other, size := 1, bytes := 8, zero := [.undef], ty := .unit }),
  (28, { und := .other, size := 1, bytes := 8, zero := [.undef], ty := .unit }),
  (29, { und := .other, size := 1, bytes := 8, zero := [.undef], ty := .unit }),
  (30, { und := .other, size := 1, bytes := 8, zero := [.undef], ty := .unit }),
  (31, { und := .slice 5, size := 1, bytes := 24, zero := [.sl .nil], ty := .slice (.int .u8) }),
  (32, { und := .other, size := 1, bytes := 8, zero := [.undef], ty := .unit }),
  (33, { und := .struct [(0, 22), (1, 22), (2, 22)], size := 3, bytes := 12, zero := [.flt .f32 0, .flt .f32 0, .flt .f32 0], ty := .pair (.flt .f32) (.pair (.flt .f32) (.pair (.flt .f32) (.unit))) }),
  (34, { und := .struct [(0, 22), (1, 22), (2, 22)], size := 3, bytes := 12, zero := [.flt .f32 0, .flt .f32 0, .flt .f32 0], ty := .pair (.flt .f32) (.pair (.flt .f32) (.pair (.flt .f32) (.unit))) }),
  (35, { und := .other, size := 1, bytes := 8, zero := [.undef], ty := .unit }),
  (36, { und := .other, size := 1, bytes := 8, zero := [.undef], ty := .unit }),
  (38, { und := .other, size := 1, bytes := 8, zero := [.undef], ty := .unit }),
  (39, { und := .flt .f64, size := 1, bytes := 8, zero := [.flt .f64 0], ty := .flt .f64 }),
  (40, { und := .other, size := 1, bytes := 8, zero := [.undef], ty := .unit }),
  (41, { und := .other, size := 1, bytes := 8, zero := [.undef], ty := .unit }),
  (42, { und := .struct [(0, 22), (1, 22), (2, 22)], size := 3, bytes := 12, zero := [.flt .f32 0, .flt .f32 0, .flt .f32 0], ty := .pair (.flt .f32) (.pair (.flt .f32) (.pair (.flt .f32) (.unit))) }),
  (43, { und := .struct [(0, 42), (3, 42), (6, 22), (7, 22)], size := 8, bytes := 32, zero := [.flt .f32 0, .flt .f32 0, .flt .f32 0, .flt .f32 0, .flt .f32 0, .flt .f32 0, .flt .f32 0, .flt .f32 0], ty := .pair (.pair (.flt .f32) (.pair (.flt .f32) (.pair (.flt .f32) (.unit)))) (.pair (.pair (.flt .f32) (.pair (.flt .f32) (.pair (.flt .f32) (.unit)))) (.pair (.flt .f32) (.pair (.flt .f32) (.unit)))) }),
  (44, { und := .struct [(0, 42), (3, 42), (6, 22), (7, 22)], size := 8, bytes := 32, zero := [.flt .f32 0, .flt .f32 0, .flt .f32 0, .flt .f32 0, .flt .f32 0, .flt .f32 0, .flt .f32 0, .flt .f32 0], ty := .pair (.pair (.flt .f32) (.pair (.flt .f32) (.pair (.flt .f32) (.unit)))) (.pair (.pair (.flt .f32) (.pair (.flt .f32) (.pair (.flt .f32) (.unit)))) (.pair (.flt .f32) (.pair (.flt .f32) (.unit)))) }),
  (45, { und := .struct [(0, 34), (3, 34), (6, 22), (7, 22)], size := 8, bytes := 32, zero := [.flt .f32 0, .flt .f32 0, .flt .f32 0, .flt .f32 0, .flt .f32 0, .flt .f32 0, .flt .f32 0, .flt .f32 0], ty := .pair (.pair (.flt .f32) (.pair (.flt .f32) (.pair (.flt .f32) (.unit)))) (.pair (.pair (.flt .f32) (.pair (.flt .f32) (.pair (.flt .f32) (.unit)))) (.pair (.flt .f32) (.pair (.flt .f32) (.unit)))) }),
  (46, { und := .struct [(0, 34), (3, 34), (6, 22), (7, 22)], size := 8, bytes := 32, zero := [.flt .f32 0, .flt .f32 0, .flt .f32 0, .flt .f32 0, .flt .f32 0, .flt .f32 0, .flt .f32 0, .flt .f32 0], ty := .pair (.pair (.flt .f32) (.pair (.flt .f32) (.pair (.flt .f32) (.unit)))) (.pair (.pair (.flt .f32) (.pair (.flt .f32) (.pair (.flt .f32) (.unit)))) (.pair (.flt .f32) (.pair (.flt .f32) (.unit)))) }),
  (47, { und := .other, size := 1, bytes := 8, zero := [.undef], ty := .unit }),
  (48, { und := .other, size := 1, bytes := 8, zero := [.undef], ty := .unit }),
  (49, { und := .other, size := 1, bytes := 8, zero := [.undef], ty := .unit }),
  (50, { und := .other, size := 1, bytes := 8, zero := [.undef], ty := .unit }),
  (51, { und := .other, size := 1, bytes := 8, zero := [.undef], ty := .unit }),
  (52, { und := .struct [(0, 22), (1, 22), (2, 22), (3, 22)], size := 4, bytes := 16, zero := [.flt .f32 0, .flt .f32 0, .flt .f32 0, .flt .f32 0], ty := .pair (.flt .f32) (.pair (.flt .f32) (.pair (.flt .f32) (.pair (.flt .f32) (.unit)))) }),
  (53, { und := .struct [(0, 22), (1, 22), (2, 22), (3, 22)], size := 4, bytes := 16, zero := [.flt .f32 0, .flt .f32 0, .flt .f32 0, .flt .f32 0], ty := .pair (.flt .f32) (.pair (.flt .f32) (.pair (.flt .f32) (.pair (.flt .f32) (.unit)))) }),
  (54, { und := .slice 22, size := 1, bytes := 24, zero := [.sl .nil], ty := .slice (.flt .f32) }),
  (56, { und := .other, size := 1, bytes := 8, zero := [.undef], ty := .unit }),
  (57, { und := .other, size := 1, bytes := 8, zero := [.undef], ty := .unit }),
  (58, { und := .other, size := 1, bytes := 8, zero := [.undef], ty := .unit }),
  (59, { und := .other, size := 1, bytes := 8, zero := [.undef], ty := .unit }),
  (61, { und := .other, size := 1, bytes := 8, zero := [.undef], ty := .unit }),
  (62, { und := .other, size := 1, bytes := 8, zero := [.undef], ty := .unit }),
  (63, { und := .other, size := 1, bytes := 8, zero := [.undef], ty := .unit }),
  (64, { und := .other, size := 1, bytes := 8, zero := [.undef], ty := .unit }),
  (65, { und := .other, size := 1, bytes := 8, zero := [.undef], ty := .unit }),
  (66, { und := .other, size := 1, bytes := 8, zero := [.undef], ty := .unit }),
  (67, { und := .other, size := 1, bytes := 8, zero := [.undef], ty := .unit }),
  (68, { und := .struct [(0, 22), (1, 22), (2, 22), (3, 22)], size := 4, bytes := 16, zero := [.flt .f32 0, .flt .f32 0, .flt .f32 0, .flt .f32 0], ty := .pair (.flt .f32) (.pair (.flt .f32) (.pair (.flt .f32) (.pair (.flt .f32) (.unit)))) }),
  (69, { und := .other, size := 1, bytes := 8, zero := [.undef], ty := .unit }),
  (70, { und := .other, size := 1, bytes := 8, zero := [.undef], ty := .unit }),
  (71, { und := .other, size := 1, bytes := 8, zero := [.undef], ty := .unit }),
  (72, { und := .other, size := 1, bytes := 8, zero := [.undef], ty := .unit }),
  (74, { und := .other, size := 1, bytes := 8, zero := [.undef], ty := .unit }),
  (75, { und := .other, size := 1, bytes := 8, zero := [.undef], ty := .unit }),
  (76, { und := .other, size := 1, bytes := 8, zero := [.pnil], ty := .unit }),
  (77, { und := .other, size := 1, bytes := 8, zero := [.undef], ty := .unit }),
  (78, { und := .other, size := 1, bytes := 8, zero := [.undef], ty := .unit }),
  (79, { und := .other, size := 1, bytes := 8, zero := [.undef], ty := .unit }),
  (80, { und := .other, size := 1, bytes := 8, zero := [.undef], ty := .unit }),
  (81, { und := .other, size := 1, bytes := 8, zero := [.undef], ty := .unit }),
  (82, { und := .other, size := 1, bytes := 8, zero := [.undef], ty := .unit }),
  (83, { und := .other, size := 1, bytes := 8, zero := [.undef], ty := .unit }),
  (84, { und := .other, size := 1, bytes := 8, zero := [.undef], ty := .unit }),
  (85, { und := .other, size := 1, bytes := 8, zero := [.undef], ty := .unit }),
  (86, { und := .other, size := 1, bytes := 8, zero := [.undef], ty := .unit }),
  (87, { und := .other, size := 1, bytes := 8, zero := [.undef], ty := .unit }),
  (88, { und := .other, size := 1, bytes := 8, zero := [.undef], ty := .unit }),
  (89, { und := .int .u64, size := 1, bytes := 8, zero := [.int .u64 0], ty := .int .u64 }),
  (90, { und := .struct [(0, 31), (1, 3), (2, 89)], size := 3, bytes := 40, zero := [.sl .nil, .int .i64 0, .int .u64 0], ty := .pair (.slice (.int .u8)) (.pair (.int .i64) (.pair (.int .u64) (.unit))) }),
  (91, { und := .struct [(0, 31), (1, 3), (2, 89)], size := 3, bytes := 40, zero := [.sl .nil, .int .i64 0, .int .u64 0], ty := .pair (.slice (.int .u8)) (.pair (.int .i64) (.pair (.int .u64) (.unit))) }),
  (92, { und := .other, size := 1, bytes := 8, zero := [.undef], ty := .unit }),
  (93, { und := .other, size := 1, bytes := 8, zero := [.undef], ty := .unit }),
  (94, { und := .other, size := 1, bytes := 8, zero := [.undef], ty := .unit }),
  (95, { und := .other, size := 1, bytes := 8, zero := [.undef], ty := .unit }),
  (96, { und := .other, size := 1, bytes := 8, zero := [.undef], ty := .unit }),
  (97, { und := .other, size := 1, bytes := 8, zero := [.undef], ty := .unit }),
  (98, { und := .other, size := 1, bytes := 8, zero := [.undef], ty := .unit }),
  (99, { und := .slice 2, size := 1, bytes := 24, zero := [.sl .nil], ty := .slice (.int .i64) }),
  (100, { und := .int .u64, size := 1, bytes := 8, zero := [.int .u64 0], ty := .int .u64 }),
  (101, { und := .other, size := 1, bytes := 8, zero := [.undef], ty := .unit }),
  (102, { und := .int .u32, size := 1, bytes := 4, zero := [.int .u32 0], ty := .int .u32 }),
  (103, { und := .other, size := 1, bytes := 8, zero := [.undef], ty := .unit }),
  (104, { und := .other, size := 1, bytes := 8, zero := [.undef], ty := .unit }),
  (105, { und := .other, size := 1, bytes := 8, zero := [.undef], ty := .unit }),
  (111, { und := .other, size := 1, bytes := 8, zero := [.undef], ty := .unit }),
  (114, { und := .other, size := 1, bytes := 8, zero := [.undef], ty := .unit }),
  (115, { und := .other, size := 1, bytes := 8, zero := [.pnil], ty := .unit }),
  (120, { und := .other, size := 1, bytes := 8, zero := [.undef], ty := .unit })]

theorem tab_ok : TabOK Try.prog (lookT tab) := tabB_spec (by kernel_rfl)
theorem mixed : Try.prog.follows .mixedOrders = true := by kernel_rfl
abbrev F32 := Ty.flt .f32
abbrev F64 := Ty.flt .f64
def noL : Nat → Option LP := fun _ => none
def ent : List (Nat × FM) → FuncId → List FM
  | [], _ => []
  | (k, m) :: r, f => bif Nat.beq k f then m :: ent r f else ent r f
def env (l : List (Nat × FM)) : Tabs := { T := lookT tab, pur := ent l, mutf := fun _ => [] }
theorem ent_mem : ∀ {l : List (Nat × FM)} {f : FuncId} {m : FM}, m ∈ ent l f → (f, m) ∈ l
  | [], _, _, h => by cases h
  | (k, m') :: r, f, m, h => by
    simp only [ent] at h
    cases hb : Nat.beq k f
    · rw [hb] at h; exact .tail _ (ent_mem h)
    · rw [hb] at h
      have := Nat.eq_of_beq_eq_true hb
      subst this
      cases h with
      | head => exact .head _
      | tail _ h => exact .tail _ (ent_mem h)
def AllOK (l : List (Nat × FM)) : Prop := ∀ f m, (f, m) ∈ l → FmOK Try.prog f m
theorem AllOK.nil : AllOK [] := fun _ _ h => by cases h
theorem AllOK.cons {f : Nat} {m : FM} {l : List (Nat × FM)} (h : FmOK Try.prog f m) (hl : AllOK l) : AllOK ((f, m) :: l) := fun g m' hm => by
  cases hm with
  | head => exact h
  | tail _ hm => exact hl g m' hm
theorem AllOK.env {l : List (Nat × FM)} (h : AllOK l) : EnvOK Try.prog (env l) := ⟨tab_ok, fun f m hm => h f m (ent_mem hm), fun _ _ hm => (nomatch hm), mixed⟩

/-! ### bits -/
theorem ok84 : FmOK Try.prog 84 (mBits .f32 .u32) := FmOK.bits (e := Extern.MathFloatBits.float32bits) Try.func84 (by kernel_rfl) rfl (by kernel_rfl) (by kernel_rfl) (fun _ _ => rfl) (by decide) (by decide)
theorem ok67 : FmOK Try.prog 67 (mBits .f64 .u64) := FmOK.bits (e := Extern.MathFloatBits.float64bits) Try.func67 (by kernel_rfl) rfl (by kernel_rfl) (by kernel_rfl) (fun _ _ => rfl) (by decide) (by decide)
def env1 : List (Nat × FM) := [(84, mBits .f32 .u32), (67, mBits .f64 .u64)]
theorem all1 : AllOK env1 := .cons ok84 (.cons ok67 .nil)
theorem e77 (x : Nat) : evalF (env env1) noL Try.f77 [.ro false F32] (.one false (.int .i64)) (x, ()) =
    bif !feq .f32 x x then some 2143289344 else (bif isNan .f32 x then none else some (x : Int)).bind fun n => some (iconv .i64 n) := by kernel_rfl
theorem e56 (x : Nat) : evalF (env env1) noL Try.f56 [.ro false F64] (.one false .bool) (x, ()) =
    (bif isNan .f64 x then none else some (x : Int)).bind fun n => some (ilt (iconv .i64 n) 0) := by kernel_rfl
def bits32 (x : Nat) : Int := bif isNan .f32 x then 2143289344 else x
def neg64 (x : Nat) : Bool := ilt (iconv .i64 x) 0
def m77 : FM := { ps := [.ro false F32], res := .one false (.int .i64), run := fun x => some (bits32 x.1) }
def m56 : FM := { ps := [.ro false F64], res := .one false .bool, run := fun x => bif isNan .f64 x.1 then none else some (neg64 x.1) }
def env2 : List (Nat × FM) := (77, m77) :: (56, m56) :: env1
theorem e64 (x y : Nat) : evalF (env env2) noL Try.f64 [.ro false F32, .ro false F32] (.one false .bool) (x, y, ()) = some (ieq (bits32 x) (bits32 y)) := by kernel_rfl
theorem e32 (x y : Nat) : evalF (env env2) noL Try.f32 [.ro false F32, .ro false F32] (.one false .bool) (x, y, ()) =
    bif !feq .f32 x x then (bif !feq .f32 x x then some (!feq .f32 y y) else some false) else bif !feq .f32 y y then (bif !feq .f32 x x then some (!feq .f32 y y) else some false) else
      bif feq .f32 x y then (fconv .f32 .f64 x).bind fun a => (bif isNan .f64 a then none else some (neg64 a)).bind fun s => (fconv .f32 .f64 y).bind fun b => (bif isNan .f64 b then none else some (neg64 b)).bind fun t => some (s == t) else some false := by kernel_rfl
end Go.Fw.Spr
