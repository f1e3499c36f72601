/- The functions of the translation compute what the plain functions compute. No condition. -/
import Derived.Test.YthmpjkfccbchfaaFPure
import Derived.Test.YthmpjkfccbchfaaProg
import Derived.KernelRfl
set_option linter.unusedVariables false
namespace Go.Fw.F
open Go.Fw Go.Proofs Go.RowKit
noncomputable section
def tab : List (Nat × TI) := [
  (2, { und := .int .i64, size := 1, bytes := 8, zero := [.int .i64 0], ty := (.int .i64) }),
  (3, { und := .int .i64, size := 1, bytes := 8, zero := [.int .i64 0], ty := (.int .i64) }),
  (4, { und := .bool, size := 1, bytes := 1, zero := [.bool false], ty := .bool }),
  (5, { und := .int .u8, size := 1, bytes := 1, zero := [.int .u8 0], ty := (.int .u8) }),
  (22, { und := .slice 5, size := 1, bytes := 24, zero := [.sl .nil], ty := (.slice (.int .u8)) }),
  (24, { und := .flt .f32, size := 1, bytes := 4, zero := [.flt .f32 0], ty := (.flt .f32) }),
  (28, { und := .flt .f64, size := 1, bytes := 8, zero := [.flt .f64 0], ty := (.flt .f64) }),
  (76, { und := .other, size := 1, bytes := 8, zero := [.pnil], ty := .unit }),
  (82, { und := .int .u32, size := 1, bytes := 4, zero := [.int .u32 0], ty := (.int .u32) }),
  (97, { und := .int .u64, size := 1, bytes := 8, zero := [.int .u64 0], ty := (.int .u64) }),
  (99, { und := .struct [(0, 22), (1, 3), (2, 97)], size := 3, bytes := 40, zero := [.sl .nil, .int .i64 0, .int .u64 0], ty := (.pair (.slice (.int .u8)) (.pair (.int .i64) (.pair (.int .u64) .unit))) }),
  (102, { und := .slice 2, size := 1, bytes := 24, zero := [.sl .nil], ty := (.slice (.int .i64)) })]
theorem tab_ok : TabOK Try.prog (lookT tab) := tabB_spec (by kernel_rfl)
theorem mixed : Try.prog.follows .mixedOrders = true := by kernel_rfl
def E_w_b10Long : Tabs := (mkE tab [] [])
set_option maxRecDepth 4000 in
theorem ek_w_b10Long : EnvOK Try.prog E_w_b10Long := (mkE_ok tab_ok mixed AllF.nil AllX.nil)
theorem ev_w_b10Long (code : (List Int)) (more : (List Int)) : evalF E_w_b10Long noL Try.f13 [.ro false (.slice (.int .u8)), .ro false (.slice (.int .u8))] (.one false .bool) (code, more, ()) = g_w_b10Long code more := by kernel_rfl
def m_w_b10Long : FM := { ps := [.ro false (.slice (.int .u8)), .ro false (.slice (.int .u8))], res := .one false .bool, run := fun x => some (t_w_b10Long x.1 x.2.1) }
set_option maxRecDepth 4000 in
theorem ok_w_b10Long : FmOK Try.prog 13 m_w_b10Long := @FmOK.made Try.prog E_w_b10Long ek_w_b10Long 13 Try.f13 noL m_w_b10Long Try.func13 (by kernel_rfl) (Loops.none (by kernel_rfl)) fun ds out _ hr => by obtain ⟨code, more, ⟨⟩⟩ := ds; exact (ev_w_b10Long code more).trans ((q_w_b10Long code more).trans hr)

def E_s_l00From : Tabs := (mkE tab [] [])
set_option maxRecDepth 4000 in
theorem ek_s_l00From : EnvOK Try.prog E_s_l00From := (mkE_ok tab_ok mixed AllF.nil AllX.nil)
theorem ev_s_l00From (code : (List Int)) : evalX E_s_l00From noL Try.f67 [.ro false (.slice (.int .u8))] (.box tSrc) (code, ()) = g_s_l00From code := by kernel_rfl
def m_s_l00From : FX := { ps := [.ro false (.slice (.int .u8))], res := .box tSrc, run := fun x => some (t_s_l00From x.1) }
set_option maxRecDepth 4000 in
theorem ok_s_l00From : FxOK Try.prog 67 m_s_l00From := @FxOK.made Try.prog E_s_l00From ek_s_l00From 67 Try.f67 noL m_s_l00From Try.func67 (by kernel_rfl) (Loops.none (by kernel_rfl)) fun ds out _ hr => by obtain ⟨code, ⟨⟩⟩ := ds; exact (ev_s_l00From code).trans ((q_s_l00From code).trans hr)

def E_s_l00Src_next : Tabs := (mkE tab [] [])
set_option maxRecDepth 4000 in
theorem ek_s_l00Src_next : EnvOK Try.prog E_s_l00Src_next := (mkE_ok tab_ok mixed AllF.nil AllX.nil)
theorem ev_s_l00Src_next (s : dSrc) : evalX E_s_l00Src_next noL Try.f109 [.optr tSrc] (.one false (.int .i64)) (s, ()) = g_s_l00Src_next s := by kernel_rfl
def m_s_l00Src_next : FX := { ps := [.optr tSrc], res := .one false (.int .i64), run := fun x => g_s_l00Src_next x.1 }
set_option maxRecDepth 4000 in
theorem ok_s_l00Src_next : FxOK Try.prog 109 m_s_l00Src_next := @FxOK.made Try.prog E_s_l00Src_next ek_s_l00Src_next 109 Try.f109 noL m_s_l00Src_next Try.func109 (by kernel_rfl) (Loops.none (by kernel_rfl)) fun ds out _ hr => by obtain ⟨s, ⟨⟩⟩ := ds; exact (ev_s_l00Src_next s).trans hr

def E_s_l00Src_pick : Tabs := (mkE tab [] [(109, m_s_l00Src_next)])
set_option maxRecDepth 4000 in
theorem ek_s_l00Src_pick : EnvOK Try.prog E_s_l00Src_pick := (mkE_ok tab_ok mixed AllF.nil (AllX.cons ok_s_l00Src_next AllX.nil))
theorem ev_s_l00Src_pick (s : dSrc) (n : Int) : evalX E_s_l00Src_pick noL Try.f69 [.optr tSrc, .ro false (.int .i64)] (.one false (.int .i64)) (s, n, ()) = g_s_l00Src_pick s n := by kernel_rfl
def m_s_l00Src_pick : FX := { ps := [.optr tSrc, .ro false (.int .i64)], res := .one false (.int .i64), run := fun x => g_s_l00Src_pick x.1 x.2.1 }
set_option maxRecDepth 4000 in
theorem ok_s_l00Src_pick : FxOK Try.prog 69 m_s_l00Src_pick := @FxOK.made Try.prog E_s_l00Src_pick ek_s_l00Src_pick 69 Try.f69 noL m_s_l00Src_pick Try.func69 (by kernel_rfl) (Loops.none (by kernel_rfl)) fun ds out _ hr => by obtain ⟨s, n, ⟨⟩⟩ := ds; exact (ev_s_l00Src_pick s n).trans hr

def E_s_l00Src_one : Tabs := (mkE tab [] [(69, m_s_l00Src_pick)])
set_option maxRecDepth 4000 in
theorem ek_s_l00Src_one : EnvOK Try.prog E_s_l00Src_one := (mkE_ok tab_ok mixed AllF.nil (AllX.cons ok_s_l00Src_pick AllX.nil))
theorem ev_s_l00Src_one (s : dSrc) (n : Int) : evalX E_s_l00Src_one noL Try.f68 [.optr tSrc, .ro false (.int .i64)] (.one false .bool) (s, n, ()) = g_s_l00Src_one s n := by kernel_rfl
def m_s_l00Src_one : FX := { ps := [.optr tSrc, .ro false (.int .i64)], res := .one false .bool, run := fun x => g_s_l00Src_one x.1 x.2.1 }
set_option maxRecDepth 4000 in
theorem ok_s_l00Src_one : FxOK Try.prog 68 m_s_l00Src_one := @FxOK.made Try.prog E_s_l00Src_one ek_s_l00Src_one 68 Try.f68 noL m_s_l00Src_one Try.func68 (by kernel_rfl) (Loops.none (by kernel_rfl)) fun ds out _ hr => by obtain ⟨s, n, ⟨⟩⟩ := ds; exact (ev_s_l00Src_one s n).trans hr

set_option maxRecDepth 4000 in
theorem ok_float32frombits : FmOK Try.prog 77 m_float32frombits := FmOK.from (e := Extern.MathFloatBits.float32frombits) Try.func77 (by kernel_rfl) rfl (by kernel_rfl) (by kernel_rfl) (fun _ _ => rfl) (by decide) (by decide)

def E_s_l01From : Tabs := (mkE tab [(77, m_float32frombits)] [])
set_option maxRecDepth 4000 in
theorem ek_s_l01From : EnvOK Try.prog E_s_l01From := (mkE_ok tab_ok mixed (AllF.cons ok_float32frombits AllF.nil) AllX.nil)
theorem ev_s_l01From (n : Int) : evalF E_s_l01From noL Try.f70 [.ro false (.int .i64)] (.one false (.flt .f32)) (n, ()) = g_s_l01From n := by kernel_rfl
def m_s_l01From : FM := { ps := [.ro false (.int .i64)], res := .one false (.flt .f32), run := fun x => some (t_s_l01From x.1) }
set_option maxRecDepth 4000 in
theorem ok_s_l01From : FmOK Try.prog 70 m_s_l01From := @FmOK.made Try.prog E_s_l01From ek_s_l01From 70 Try.f70 noL m_s_l01From Try.func70 (by kernel_rfl) (Loops.none (by kernel_rfl)) fun ds out _ hr => by obtain ⟨n, ⟨⟩⟩ := ds; exact (ev_s_l01From n).trans ((q_s_l01From n).trans hr)

def E_s_l01DrawPlain : Tabs := (mkE tab [] [(69, m_s_l00Src_pick), (68, m_s_l00Src_one)])
set_option maxRecDepth 4000 in
theorem ek_s_l01DrawPlain : EnvOK Try.prog E_s_l01DrawPlain := (mkE_ok tab_ok mixed AllF.nil (AllX.cons ok_s_l00Src_pick (AllX.cons ok_s_l00Src_one AllX.nil)))
theorem ev_s_l01DrawPlain (s : dSrc) : evalX E_s_l01DrawPlain noL Try.f110 [.optr tSrc] (.one false (.flt .f32)) (s, ()) = g_s_l01DrawPlain s := by kernel_rfl
def m_s_l01DrawPlain : FX := { ps := [.optr tSrc], res := .one false (.flt .f32), run := fun x => g_s_l01DrawPlain x.1 }
set_option maxRecDepth 4000 in
theorem ok_s_l01DrawPlain : FxOK Try.prog 110 m_s_l01DrawPlain := @FxOK.made Try.prog E_s_l01DrawPlain ek_s_l01DrawPlain 110 Try.f110 noL m_s_l01DrawPlain Try.func110 (by kernel_rfl) (Loops.none (by kernel_rfl)) fun ds out _ hr => by obtain ⟨s, ⟨⟩⟩ := ds; exact (ev_s_l01DrawPlain s).trans hr

def E_s_l00Src_among : Tabs := (mkE tab [] [(69, m_s_l00Src_pick)])
set_option maxRecDepth 4000 in
theorem ek_s_l00Src_among : EnvOK Try.prog E_s_l00Src_among := (mkE_ok tab_ok mixed AllF.nil (AllX.cons ok_s_l00Src_pick AllX.nil))
theorem ev_s_l00Src_among (s : dSrc) (list : (List Int)) : evalX E_s_l00Src_among noL Try.f111 [.optr tSrc, .own false (.slice (.int .i64))] (.one false (.int .i64)) (s, list, ()) = g_s_l00Src_among s list := by kernel_rfl
def m_s_l00Src_among : FX := { ps := [.optr tSrc, .own false (.slice (.int .i64))], res := .one false (.int .i64), run := fun x => g_s_l00Src_among x.1 x.2.1 }
set_option maxRecDepth 4000 in
theorem ok_s_l00Src_among : FxOK Try.prog 111 m_s_l00Src_among := @FxOK.made Try.prog E_s_l00Src_among ek_s_l00Src_among 111 Try.f111 noL m_s_l00Src_among Try.func111 (by kernel_rfl) (Loops.none (by kernel_rfl)) fun ds out _ hr => by obtain ⟨s, list, ⟨⟩⟩ := ds; exact (ev_s_l00Src_among s list).trans hr

def E_s_l01DrawFloat : Tabs := (mkE tab [(70, m_s_l01From)] [(68, m_s_l00Src_one), (110, m_s_l01DrawPlain), (69, m_s_l00Src_pick), (111, m_s_l00Src_among)])
set_option maxRecDepth 4000 in
theorem ek_s_l01DrawFloat : EnvOK Try.prog E_s_l01DrawFloat := (mkE_ok tab_ok mixed (AllF.cons ok_s_l01From AllF.nil) (AllX.cons ok_s_l00Src_one (AllX.cons ok_s_l01DrawPlain (AllX.cons ok_s_l00Src_pick (AllX.cons ok_s_l00Src_among AllX.nil)))))
theorem ev_s_l01DrawFloat (s : dSrc) : evalX E_s_l01DrawFloat noL Try.f71 [.optr tSrc] (.one false (.flt .f32)) (s, ()) = g_s_l01DrawFloat s := by kernel_rfl
def m_s_l01DrawFloat : FX := { ps := [.optr tSrc], res := .one false (.flt .f32), run := fun x => g_s_l01DrawFloat x.1 }
set_option maxRecDepth 4000 in
theorem ok_s_l01DrawFloat : FxOK Try.prog 71 m_s_l01DrawFloat := @FxOK.made Try.prog E_s_l01DrawFloat ek_s_l01DrawFloat 71 Try.f71 noL m_s_l01DrawFloat Try.func71 (by kernel_rfl) (Loops.none (by kernel_rfl)) fun ds out _ hr => by obtain ⟨s, ⟨⟩⟩ := ds; exact (ev_s_l01DrawFloat s).trans hr

def E_s_B10Number : Tabs := (mkE tab [(70, m_s_l01From)] [(67, m_s_l00From), (68, m_s_l00Src_one), (69, m_s_l00Src_pick), (71, m_s_l01DrawFloat)])
set_option maxRecDepth 4000 in
theorem ek_s_B10Number : EnvOK Try.prog E_s_B10Number := (mkE_ok tab_ok mixed (AllF.cons ok_s_l01From AllF.nil) (AllX.cons ok_s_l00From (AllX.cons ok_s_l00Src_one (AllX.cons ok_s_l00Src_pick (AllX.cons ok_s_l01DrawFloat AllX.nil)))))
theorem ev_s_B10Number (code : (List Int)) : evalF E_s_B10Number noL Try.f14 [.ro false (.slice (.int .u8))] (.one false (.flt .f32)) (code, ()) = g_s_B10Number code := by kernel_rfl
def m_s_B10Number : FM := { ps := [.ro false (.slice (.int .u8))], res := .one false (.flt .f32), run := fun x => g_s_B10Number x.1 }
set_option maxRecDepth 4000 in
theorem ok_s_B10Number : FmOK Try.prog 14 m_s_B10Number := @FmOK.made Try.prog E_s_B10Number ek_s_B10Number 14 Try.f14 noL m_s_B10Number Try.func14 (by kernel_rfl) (Loops.none (by kernel_rfl)) fun ds out _ hr => by obtain ⟨code, ⟨⟩⟩ := ds; exact (ev_s_B10Number code).trans hr

def E_i_NarrowNumber : Tabs := (mkE tab [] [])
set_option maxRecDepth 4000 in
theorem ek_i_NarrowNumber : EnvOK Try.prog E_i_NarrowNumber := (mkE_ok tab_ok mixed AllF.nil AllX.nil)
theorem ev_i_NarrowNumber (xx : Nat) : evalF E_i_NarrowNumber noL Try.f16 [.ro false (.flt .f64)] (.one false (.flt .f32)) (xx, ()) = g_i_NarrowNumber xx := by kernel_rfl
def m_i_NarrowNumber : FM := { ps := [.ro false (.flt .f64)], res := .one false (.flt .f32), run := fun x => g_i_NarrowNumber x.1 }
set_option maxRecDepth 4000 in
theorem ok_i_NarrowNumber : FmOK Try.prog 16 m_i_NarrowNumber := @FmOK.made Try.prog E_i_NarrowNumber ek_i_NarrowNumber 16 Try.f16 noL m_i_NarrowNumber Try.func16 (by kernel_rfl) (Loops.none (by kernel_rfl)) fun ds out _ hr => by obtain ⟨xx, ⟨⟩⟩ := ds; exact (ev_i_NarrowNumber xx).trans hr

set_option maxRecDepth 4000 in
theorem ok_float32bits : FmOK Try.prog 76 m_float32bits := FmOK.bits (e := Extern.MathFloatBits.float32bits) Try.func76 (by kernel_rfl) rfl (by kernel_rfl) (by kernel_rfl) (fun _ _ => rfl) (by decide) (by decide)

def E_s_l01Bits : Tabs := (mkE tab [(76, m_float32bits)] [])
set_option maxRecDepth 4000 in
theorem ek_s_l01Bits : EnvOK Try.prog E_s_l01Bits := (mkE_ok tab_ok mixed (AllF.cons ok_float32bits AllF.nil) AllX.nil)
theorem ev_s_l01Bits (xx : Nat) : evalF E_s_l01Bits noL Try.f75 [.ro false (.flt .f32)] (.one false (.int .i64)) (xx, ()) = g_s_l01Bits xx := by kernel_rfl
def m_s_l01Bits : FM := { ps := [.ro false (.flt .f32)], res := .one false (.int .i64), run := fun x => g_s_l01Bits x.1 }
set_option maxRecDepth 4000 in
theorem ok_s_l01Bits : FmOK Try.prog 75 m_s_l01Bits := @FmOK.made Try.prog E_s_l01Bits ek_s_l01Bits 75 Try.f75 noL m_s_l01Bits Try.func75 (by kernel_rfl) (Loops.none (by kernel_rfl)) fun ds out _ hr => by obtain ⟨xx, ⟨⟩⟩ := ds; exact (ev_s_l01Bits xx).trans hr

def E_s_l01Same : Tabs := (mkE tab [(75, m_s_l01Bits)] [])
set_option maxRecDepth 4000 in
theorem ek_s_l01Same : EnvOK Try.prog E_s_l01Same := (mkE_ok tab_ok mixed (AllF.cons ok_s_l01Bits AllF.nil) AllX.nil)
theorem ev_s_l01Same (a : Nat) (b : Nat) : evalF E_s_l01Same noL Try.f72 [.ro false (.flt .f32), .ro false (.flt .f32)] (.one false .bool) (a, b, ()) = g_s_l01Same a b := by kernel_rfl
def m_s_l01Same : FM := { ps := [.ro false (.flt .f32), .ro false (.flt .f32)], res := .one false .bool, run := fun x => g_s_l01Same x.1 x.2.1 }
set_option maxRecDepth 4000 in
theorem ok_s_l01Same : FmOK Try.prog 72 m_s_l01Same := @FmOK.made Try.prog E_s_l01Same ek_s_l01Same 72 Try.f72 noL m_s_l01Same Try.func72 (by kernel_rfl) (Loops.none (by kernel_rfl)) fun ds out _ hr => by obtain ⟨a, b, ⟨⟩⟩ := ds; exact (ev_s_l01Same a b).trans hr

def E_s_SameNumber : Tabs := (mkE tab [(72, m_s_l01Same)] [])
set_option maxRecDepth 4000 in
theorem ek_s_SameNumber : EnvOK Try.prog E_s_SameNumber := (mkE_ok tab_ok mixed (AllF.cons ok_s_l01Same AllF.nil) AllX.nil)
theorem ev_s_SameNumber (a : Nat) (b : Nat) : evalF E_s_SameNumber noL Try.f15 [.ro false (.flt .f32), .ro false (.flt .f32)] (.one false .bool) (a, b, ()) = g_s_SameNumber a b := by kernel_rfl
def m_s_SameNumber : FM := { ps := [.ro false (.flt .f32), .ro false (.flt .f32)], res := .one false .bool, run := fun x => g_s_SameNumber x.1 x.2.1 }
set_option maxRecDepth 4000 in
theorem ok_s_SameNumber : FmOK Try.prog 15 m_s_SameNumber := @FmOK.made Try.prog E_s_SameNumber ek_s_SameNumber 15 Try.f15 noL m_s_SameNumber Try.func15 (by kernel_rfl) (Loops.none (by kernel_rfl)) fun ds out _ hr => by obtain ⟨a, b, ⟨⟩⟩ := ds; exact (ev_s_SameNumber a b).trans hr

def E_s_l01Next : Tabs := (mkE tab [(75, m_s_l01Bits), (70, m_s_l01From)] [])
set_option maxRecDepth 4000 in
theorem ek_s_l01Next : EnvOK Try.prog E_s_l01Next := (mkE_ok tab_ok mixed (AllF.cons ok_s_l01Bits (AllF.cons ok_s_l01From AllF.nil)) AllX.nil)
theorem ev_s_l01Next (xx : Nat) : evalF E_s_l01Next noL Try.f73 [.ro false (.flt .f32)] (.one false (.flt .f32)) (xx, ()) = g_s_l01Next xx := by kernel_rfl
def m_s_l01Next : FM := { ps := [.ro false (.flt .f32)], res := .one false (.flt .f32), run := fun x => g_s_l01Next x.1 }
set_option maxRecDepth 4000 in
theorem ok_s_l01Next : FmOK Try.prog 73 m_s_l01Next := @FmOK.made Try.prog E_s_l01Next ek_s_l01Next 73 Try.f73 noL m_s_l01Next Try.func73 (by kernel_rfl) (Loops.none (by kernel_rfl)) fun ds out _ hr => by obtain ⟨xx, ⟨⟩⟩ := ds; exact (ev_s_l01Next xx).trans hr

def E_s_NextUp : Tabs := (mkE tab [(73, m_s_l01Next)] [])
set_option maxRecDepth 4000 in
theorem ek_s_NextUp : EnvOK Try.prog E_s_NextUp := (mkE_ok tab_ok mixed (AllF.cons ok_s_l01Next AllF.nil) AllX.nil)
theorem ev_s_NextUp (xx : Nat) : evalF E_s_NextUp noL Try.f17 [.ro false (.flt .f32)] (.one false (.flt .f32)) (xx, ()) = g_s_NextUp xx := by kernel_rfl
def m_s_NextUp : FM := { ps := [.ro false (.flt .f32)], res := .one false (.flt .f32), run := fun x => g_s_NextUp x.1 }
set_option maxRecDepth 4000 in
theorem ok_s_NextUp : FmOK Try.prog 17 m_s_NextUp := @FmOK.made Try.prog E_s_NextUp ek_s_NextUp 17 Try.f17 noL m_s_NextUp Try.func17 (by kernel_rfl) (Loops.none (by kernel_rfl)) fun ds out _ hr => by obtain ⟨xx, ⟨⟩⟩ := ds; exact (ev_s_NextUp xx).trans hr

def E_s_l01Finite : Tabs := (mkE tab [] [])
set_option maxRecDepth 4000 in
theorem ek_s_l01Finite : EnvOK Try.prog E_s_l01Finite := (mkE_ok tab_ok mixed AllF.nil AllX.nil)
theorem ev_s_l01Finite (xx : Nat) : evalF E_s_l01Finite noL Try.f74 [.ro false (.flt .f32)] (.one false .bool) (xx, ()) = g_s_l01Finite xx := by kernel_rfl
def m_s_l01Finite : FM := { ps := [.ro false (.flt .f32)], res := .one false .bool, run := fun x => some (t_s_l01Finite x.1) }
set_option maxRecDepth 4000 in
theorem ok_s_l01Finite : FmOK Try.prog 74 m_s_l01Finite := @FmOK.made Try.prog E_s_l01Finite ek_s_l01Finite 74 Try.f74 noL m_s_l01Finite Try.func74 (by kernel_rfl) (Loops.none (by kernel_rfl)) fun ds out _ hr => by obtain ⟨xx, ⟨⟩⟩ := ds; exact (ev_s_l01Finite xx).trans ((q_s_l01Finite xx).trans hr)

def E_s_IsFinite : Tabs := (mkE tab [(74, m_s_l01Finite)] [])
set_option maxRecDepth 4000 in
theorem ek_s_IsFinite : EnvOK Try.prog E_s_IsFinite := (mkE_ok tab_ok mixed (AllF.cons ok_s_l01Finite AllF.nil) AllX.nil)
theorem ev_s_IsFinite (xx : Nat) : evalF E_s_IsFinite noL Try.f18 [.ro false (.flt .f32)] (.one false .bool) (xx, ()) = g_s_IsFinite xx := by kernel_rfl
def m_s_IsFinite : FM := { ps := [.ro false (.flt .f32)], res := .one false .bool, run := fun x => some (t_s_IsFinite x.1) }
set_option maxRecDepth 4000 in
theorem ok_s_IsFinite : FmOK Try.prog 18 m_s_IsFinite := @FmOK.made Try.prog E_s_IsFinite ek_s_IsFinite 18 Try.f18 noL m_s_IsFinite Try.func18 (by kernel_rfl) (Loops.none (by kernel_rfl)) fun ds out _ hr => by obtain ⟨xx, ⟨⟩⟩ := ds; exact (ev_s_IsFinite xx).trans ((q_s_IsFinite xx).trans hr)

def E_s_BitsOf : Tabs := (mkE tab [(75, m_s_l01Bits)] [])
set_option maxRecDepth 4000 in
theorem ek_s_BitsOf : EnvOK Try.prog E_s_BitsOf := (mkE_ok tab_ok mixed (AllF.cons ok_s_l01Bits AllF.nil) AllX.nil)
theorem ev_s_BitsOf (xx : Nat) : evalF E_s_BitsOf noL Try.f19 [.ro false (.flt .f32)] (.one false (.int .i64)) (xx, ()) = g_s_BitsOf xx := by kernel_rfl
def m_s_BitsOf : FM := { ps := [.ro false (.flt .f32)], res := .one false (.int .i64), run := fun x => g_s_BitsOf x.1 }
set_option maxRecDepth 4000 in
theorem ok_s_BitsOf : FmOK Try.prog 19 m_s_BitsOf := @FmOK.made Try.prog E_s_BitsOf ek_s_BitsOf 19 Try.f19 noL m_s_BitsOf Try.func19 (by kernel_rfl) (Loops.none (by kernel_rfl)) fun ds out _ hr => by obtain ⟨xx, ⟨⟩⟩ := ds; exact (ev_s_BitsOf xx).trans hr

def E_w_FnNarrowed : Tabs := (mkE tab [(13, m_w_b10Long), (14, m_s_B10Number), (16, m_i_NarrowNumber), (15, m_s_SameNumber), (17, m_s_NextUp), (18, m_s_IsFinite), (19, m_s_BitsOf)] [])
set_option maxRecDepth 4000 in
theorem ek_w_FnNarrowed : EnvOK Try.prog E_w_FnNarrowed := (mkE_ok tab_ok mixed (AllF.cons ok_w_b10Long (AllF.cons ok_s_B10Number (AllF.cons ok_i_NarrowNumber (AllF.cons ok_s_SameNumber (AllF.cons ok_s_NextUp (AllF.cons ok_s_IsFinite (AllF.cons ok_s_BitsOf AllF.nil))))))) AllX.nil)
theorem ev_w_FnNarrowed (code : (List Int)) (more : (List Int)) : evalF E_w_FnNarrowed noL Try.f3 [.ro false (.slice (.int .u8)), .ro false (.slice (.int .u8))] (.one false .bool) (code, more, ()) = g_w_FnNarrowed code more := by kernel_rfl
end
end Go.Fw.F
