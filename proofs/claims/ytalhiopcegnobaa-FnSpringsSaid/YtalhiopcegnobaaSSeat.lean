/- The functions of the translation compute what the plain functions compute. No condition. -/
import Derived.Test.YtalhiopcegnobaaSPure
import Derived.Test.YtalhiopcegnobaaProg
import Derived.KernelRfl
set_option linter.unusedVariables false
namespace Go.Fw.S
open Go.Fw Go.Proofs Go.RowKit
noncomputable section
def tab : List (Nat × TI) := [
  (2, { und := .int .i64, size := 1, bytes := 8, zero := [.int .i64 0], ty := (.int .i64) }),
  (3, { und := .int .i64, size := 1, bytes := 8, zero := [.int .i64 0], ty := (.int .i64) }),
  (4, { und := .bool, size := 1, bytes := 1, zero := [.bool false], ty := .bool }),
  (5, { und := .int .u8, size := 1, bytes := 1, zero := [.int .u8 0], ty := (.int .u8) }),
  (22, { und := .flt .f32, size := 1, bytes := 4, zero := [.flt .f32 0], ty := (.flt .f32) }),
  (26, { und := .struct [(0, 22), (1, 22), (2, 22), (3, 22)], size := 4, bytes := 16, zero := [.flt .f32 0, .flt .f32 0, .flt .f32 0, .flt .f32 0], ty := tTurn }),
  (31, { und := .slice 5, size := 1, bytes := 24, zero := [.sl .nil], ty := (.slice (.int .u8)) }),
  (34, { und := .struct [(0, 22), (1, 22), (2, 22)], size := 3, bytes := 12, zero := [.flt .f32 0, .flt .f32 0, .flt .f32 0], ty := tVec }),
  (39, { und := .flt .f64, size := 1, bytes := 8, zero := [.flt .f64 0], ty := (.flt .f64) }),
  (46, { und := .struct [(0, 34), (3, 34), (6, 22), (7, 22)], size := 8, bytes := 32, zero := [.flt .f32 0, .flt .f32 0, .flt .f32 0, .flt .f32 0, .flt .f32 0, .flt .f32 0, .flt .f32 0, .flt .f32 0], ty := tSpringPoint }),
  (54, { und := .slice 22, size := 1, bytes := 24, zero := [.sl .nil], ty := (.slice (.flt .f32)) }),
  (76, { und := .other, size := 1, bytes := 8, zero := [.pnil], ty := .unit }),
  (89, { und := .int .u64, size := 1, bytes := 8, zero := [.int .u64 0], ty := (.int .u64) }),
  (91, { und := .struct [(0, 31), (1, 3), (2, 89)], size := 3, bytes := 40, zero := [.sl .nil, .int .i64 0, .int .u64 0], ty := (.pair (.slice (.int .u8)) (.pair (.int .i64) (.pair (.int .u64) .unit))) }),
  (99, { und := .slice 2, size := 1, bytes := 24, zero := [.sl .nil], ty := (.slice (.int .i64)) }),
  (102, { und := .int .u32, size := 1, bytes := 4, zero := [.int .u32 0], ty := (.int .u32) })]
theorem tab_ok : TabOK Try.prog (lookT tab) := tabB_spec (by kernel_rfl)
theorem mixed : Try.prog.follows .mixedOrders = true := by kernel_rfl
def E_w_r8Long : Tabs := (mkE tab [] [])
set_option maxRecDepth 4000 in
theorem ek_w_r8Long : EnvOK Try.prog E_w_r8Long := (mkE_ok tab_ok mixed AllF.nil AllX.nil)
theorem ev_w_r8Long (code : (List Int)) (more : (List Int)) : evalF E_w_r8Long noL Try.f19 [.ro false (.slice (.int .u8)), .ro false (.slice (.int .u8))] (.one false .bool) (code, more, ()) = g_w_r8Long code more := by kernel_rfl
def m_w_r8Long : FM := { ps := [.ro false (.slice (.int .u8)), .ro false (.slice (.int .u8))], res := .one false .bool, run := fun x => some (t_w_r8Long x.1 x.2.1) }
set_option maxRecDepth 4000 in
theorem ok_w_r8Long : FmOK Try.prog 19 m_w_r8Long := @FmOK.made Try.prog E_w_r8Long ek_w_r8Long 19 Try.f19 noL m_w_r8Long Try.func19 (by kernel_rfl) (Loops.none (by kernel_rfl)) fun ds out _ hr => by obtain ⟨code, more, ⟨⟩⟩ := ds; exact (ev_w_r8Long code more).trans ((q_w_r8Long code more).trans hr)

def E_s_l00From : Tabs := (mkE tab [] [])
set_option maxRecDepth 4000 in
theorem ek_s_l00From : EnvOK Try.prog E_s_l00From := (mkE_ok tab_ok mixed AllF.nil AllX.nil)
theorem ev_s_l00From (code : (List Int)) : evalX E_s_l00From noL Try.f51 [.ro false (.slice (.int .u8))] (.box tSrc) (code, ()) = g_s_l00From code := by kernel_rfl
def m_s_l00From : FX := { ps := [.ro false (.slice (.int .u8))], res := .box tSrc, run := fun x => some (t_s_l00From x.1) }
set_option maxRecDepth 4000 in
theorem ok_s_l00From : FxOK Try.prog 51 m_s_l00From := @FxOK.made Try.prog E_s_l00From ek_s_l00From 51 Try.f51 noL m_s_l00From Try.func51 (by kernel_rfl) (Loops.none (by kernel_rfl)) fun ds out _ hr => by obtain ⟨code, ⟨⟩⟩ := ds; exact (ev_s_l00From code).trans ((q_s_l00From code).trans hr)

def E_s_l00Src_next : Tabs := (mkE tab [] [])
set_option maxRecDepth 4000 in
theorem ek_s_l00Src_next : EnvOK Try.prog E_s_l00Src_next := (mkE_ok tab_ok mixed AllF.nil AllX.nil)
theorem ev_s_l00Src_next (s : dSrc) : evalX E_s_l00Src_next noL Try.f73 [.optr tSrc] (.one false (.int .i64)) (s, ()) = g_s_l00Src_next s := by kernel_rfl
def m_s_l00Src_next : FX := { ps := [.optr tSrc], res := .one false (.int .i64), run := fun x => g_s_l00Src_next x.1 }
set_option maxRecDepth 4000 in
theorem ok_s_l00Src_next : FxOK Try.prog 73 m_s_l00Src_next := @FxOK.made Try.prog E_s_l00Src_next ek_s_l00Src_next 73 Try.f73 noL m_s_l00Src_next Try.func73 (by kernel_rfl) (Loops.none (by kernel_rfl)) fun ds out _ hr => by obtain ⟨s, ⟨⟩⟩ := ds; exact (ev_s_l00Src_next s).trans hr

def E_s_l00Src_pick : Tabs := (mkE tab [] [(73, m_s_l00Src_next)])
set_option maxRecDepth 4000 in
theorem ek_s_l00Src_pick : EnvOK Try.prog E_s_l00Src_pick := (mkE_ok tab_ok mixed AllF.nil (AllX.cons ok_s_l00Src_next AllX.nil))
theorem ev_s_l00Src_pick (s : dSrc) (n : Int) : evalX E_s_l00Src_pick noL Try.f60 [.optr tSrc, .ro false (.int .i64)] (.one false (.int .i64)) (s, n, ()) = g_s_l00Src_pick s n := by kernel_rfl
def m_s_l00Src_pick : FX := { ps := [.optr tSrc, .ro false (.int .i64)], res := .one false (.int .i64), run := fun x => g_s_l00Src_pick x.1 x.2.1 }
set_option maxRecDepth 4000 in
theorem ok_s_l00Src_pick : FxOK Try.prog 60 m_s_l00Src_pick := @FxOK.made Try.prog E_s_l00Src_pick ek_s_l00Src_pick 60 Try.f60 noL m_s_l00Src_pick Try.func60 (by kernel_rfl) (Loops.none (by kernel_rfl)) fun ds out _ hr => by obtain ⟨s, n, ⟨⟩⟩ := ds; exact (ev_s_l00Src_pick s n).trans hr

def E_s_l01DrawSmall : Tabs := (mkE tab [] [(60, m_s_l00Src_pick)])
set_option maxRecDepth 4000 in
theorem ek_s_l01DrawSmall : EnvOK Try.prog E_s_l01DrawSmall := (mkE_ok tab_ok mixed AllF.nil (AllX.cons ok_s_l00Src_pick AllX.nil))
theorem ev_s_l01DrawSmall (s : dSrc) : evalX E_s_l01DrawSmall noL Try.f52 [.optr tSrc] (.one false (.flt .f32)) (s, ()) = g_s_l01DrawSmall s := by kernel_rfl
def m_s_l01DrawSmall : FX := { ps := [.optr tSrc], res := .one false (.flt .f32), run := fun x => g_s_l01DrawSmall x.1 }
set_option maxRecDepth 4000 in
theorem ok_s_l01DrawSmall : FxOK Try.prog 52 m_s_l01DrawSmall := @FxOK.made Try.prog E_s_l01DrawSmall ek_s_l01DrawSmall 52 Try.f52 noL m_s_l01DrawSmall Try.func52 (by kernel_rfl) (Loops.none (by kernel_rfl)) fun ds out _ hr => by obtain ⟨s, ⟨⟩⟩ := ds; exact (ev_s_l01DrawSmall s).trans hr

def E_s_l00Src_one : Tabs := (mkE tab [] [(60, m_s_l00Src_pick)])
set_option maxRecDepth 4000 in
theorem ek_s_l00Src_one : EnvOK Try.prog E_s_l00Src_one := (mkE_ok tab_ok mixed AllF.nil (AllX.cons ok_s_l00Src_pick AllX.nil))
theorem ev_s_l00Src_one (s : dSrc) (n : Int) : evalX E_s_l00Src_one noL Try.f71 [.optr tSrc, .ro false (.int .i64)] (.one false .bool) (s, n, ()) = g_s_l00Src_one s n := by kernel_rfl
def m_s_l00Src_one : FX := { ps := [.optr tSrc, .ro false (.int .i64)], res := .one false .bool, run := fun x => g_s_l00Src_one x.1 x.2.1 }
set_option maxRecDepth 4000 in
theorem ok_s_l00Src_one : FxOK Try.prog 71 m_s_l00Src_one := @FxOK.made Try.prog E_s_l00Src_one ek_s_l00Src_one 71 Try.f71 noL m_s_l00Src_one Try.func71 (by kernel_rfl) (Loops.none (by kernel_rfl)) fun ds out _ hr => by obtain ⟨s, n, ⟨⟩⟩ := ds; exact (ev_s_l00Src_one s n).trans hr

def E_s_l01DrawPlain : Tabs := (mkE tab [] [(60, m_s_l00Src_pick), (71, m_s_l00Src_one)])
set_option maxRecDepth 4000 in
theorem ek_s_l01DrawPlain : EnvOK Try.prog E_s_l01DrawPlain := (mkE_ok tab_ok mixed AllF.nil (AllX.cons ok_s_l00Src_pick (AllX.cons ok_s_l00Src_one AllX.nil)))
theorem ev_s_l01DrawPlain (s : dSrc) : evalX E_s_l01DrawPlain noL Try.f74 [.optr tSrc] (.one false (.flt .f32)) (s, ()) = g_s_l01DrawPlain s := by kernel_rfl
def m_s_l01DrawPlain : FX := { ps := [.optr tSrc], res := .one false (.flt .f32), run := fun x => g_s_l01DrawPlain x.1 }
set_option maxRecDepth 4000 in
theorem ok_s_l01DrawPlain : FxOK Try.prog 74 m_s_l01DrawPlain := @FxOK.made Try.prog E_s_l01DrawPlain ek_s_l01DrawPlain 74 Try.f74 noL m_s_l01DrawPlain Try.func74 (by kernel_rfl) (Loops.none (by kernel_rfl)) fun ds out _ hr => by obtain ⟨s, ⟨⟩⟩ := ds; exact (ev_s_l01DrawPlain s).trans hr

def E_s_l00Src_among : Tabs := (mkE tab [] [(60, m_s_l00Src_pick)])
set_option maxRecDepth 4000 in
theorem ek_s_l00Src_among : EnvOK Try.prog E_s_l00Src_among := (mkE_ok tab_ok mixed AllF.nil (AllX.cons ok_s_l00Src_pick AllX.nil))
theorem ev_s_l00Src_among (s : dSrc) (list : (List Int)) : evalX E_s_l00Src_among noL Try.f81 [.optr tSrc, .own false (.slice (.int .i64))] (.one false (.int .i64)) (s, list, ()) = g_s_l00Src_among s list := by kernel_rfl
def m_s_l00Src_among : FX := { ps := [.optr tSrc, .own false (.slice (.int .i64))], res := .one false (.int .i64), run := fun x => g_s_l00Src_among x.1 x.2.1 }
set_option maxRecDepth 4000 in
theorem ok_s_l00Src_among : FxOK Try.prog 81 m_s_l00Src_among := @FxOK.made Try.prog E_s_l00Src_among ek_s_l00Src_among 81 Try.f81 noL m_s_l00Src_among Try.func81 (by kernel_rfl) (Loops.none (by kernel_rfl)) fun ds out _ hr => by obtain ⟨s, list, ⟨⟩⟩ := ds; exact (ev_s_l00Src_among s list).trans hr

set_option maxRecDepth 4000 in
theorem ok_float32frombits : FmOK Try.prog 85 m_float32frombits := FmOK.from (e := Extern.MathFloatBits.float32frombits) Try.func85 (by kernel_rfl) rfl (by kernel_rfl) (by kernel_rfl) (fun _ _ => rfl) (by decide) (by decide)

def E_s_l01From : Tabs := (mkE tab [(85, m_float32frombits)] [])
set_option maxRecDepth 4000 in
theorem ek_s_l01From : EnvOK Try.prog E_s_l01From := (mkE_ok tab_ok mixed (AllF.cons ok_float32frombits AllF.nil) AllX.nil)
theorem ev_s_l01From (n : Int) : evalF E_s_l01From noL Try.f78 [.ro false (.int .i64)] (.one false (.flt .f32)) (n, ()) = g_s_l01From n := by kernel_rfl
def m_s_l01From : FM := { ps := [.ro false (.int .i64)], res := .one false (.flt .f32), run := fun x => some (t_s_l01From x.1) }
set_option maxRecDepth 4000 in
theorem ok_s_l01From : FmOK Try.prog 78 m_s_l01From := @FmOK.made Try.prog E_s_l01From ek_s_l01From 78 Try.f78 noL m_s_l01From Try.func78 (by kernel_rfl) (Loops.none (by kernel_rfl)) fun ds out _ hr => by obtain ⟨n, ⟨⟩⟩ := ds; exact (ev_s_l01From n).trans ((q_s_l01From n).trans hr)

def E_s_l01DrawFloat : Tabs := (mkE tab [(78, m_s_l01From)] [(71, m_s_l00Src_one), (74, m_s_l01DrawPlain), (60, m_s_l00Src_pick), (81, m_s_l00Src_among)])
set_option maxRecDepth 4000 in
theorem ek_s_l01DrawFloat : EnvOK Try.prog E_s_l01DrawFloat := (mkE_ok tab_ok mixed (AllF.cons ok_s_l01From AllF.nil) (AllX.cons ok_s_l00Src_one (AllX.cons ok_s_l01DrawPlain (AllX.cons ok_s_l00Src_pick (AllX.cons ok_s_l00Src_among AllX.nil)))))
theorem ev_s_l01DrawFloat (s : dSrc) : evalX E_s_l01DrawFloat noL Try.f72 [.optr tSrc] (.one false (.flt .f32)) (s, ()) = g_s_l01DrawFloat s := by kernel_rfl
def m_s_l01DrawFloat : FX := { ps := [.optr tSrc], res := .one false (.flt .f32), run := fun x => g_s_l01DrawFloat x.1 }
set_option maxRecDepth 4000 in
theorem ok_s_l01DrawFloat : FxOK Try.prog 72 m_s_l01DrawFloat := @FxOK.made Try.prog E_s_l01DrawFloat ek_s_l01DrawFloat 72 Try.f72 noL m_s_l01DrawFloat Try.func72 (by kernel_rfl) (Loops.none (by kernel_rfl)) fun ds out _ hr => by obtain ⟨s, ⟨⟩⟩ := ds; exact (ev_s_l01DrawFloat s).trans hr

def E_s_l02DrawShare : Tabs := (mkE tab [] [(71, m_s_l00Src_one), (72, m_s_l01DrawFloat), (60, m_s_l00Src_pick)])
set_option maxRecDepth 4000 in
theorem ek_s_l02DrawShare : EnvOK Try.prog E_s_l02DrawShare := (mkE_ok tab_ok mixed AllF.nil (AllX.cons ok_s_l00Src_one (AllX.cons ok_s_l01DrawFloat (AllX.cons ok_s_l00Src_pick AllX.nil))))
theorem ev_s_l02DrawShare (s : dSrc) : evalX E_s_l02DrawShare noL Try.f70 [.optr tSrc] (.one false (.flt .f32)) (s, ()) = g_s_l02DrawShare s := by kernel_rfl
def m_s_l02DrawShare : FX := { ps := [.optr tSrc], res := .one false (.flt .f32), run := fun x => g_s_l02DrawShare x.1 }
set_option maxRecDepth 4000 in
theorem ok_s_l02DrawShare : FxOK Try.prog 70 m_s_l02DrawShare := @FxOK.made Try.prog E_s_l02DrawShare ek_s_l02DrawShare 70 Try.f70 noL m_s_l02DrawShare Try.func70 (by kernel_rfl) (Loops.none (by kernel_rfl)) fun ds out _ hr => by obtain ⟨s, ⟨⟩⟩ := ds; exact (ev_s_l02DrawShare s).trans hr

def E_s_l08DrawSpring : Tabs := (mkE tab [] [(52, m_s_l01DrawSmall), (70, m_s_l02DrawShare), (71, m_s_l00Src_one), (72, m_s_l01DrawFloat)])
set_option maxRecDepth 4000 in
theorem ek_s_l08DrawSpring : EnvOK Try.prog E_s_l08DrawSpring := (mkE_ok tab_ok mixed AllF.nil (AllX.cons ok_s_l01DrawSmall (AllX.cons ok_s_l02DrawShare (AllX.cons ok_s_l00Src_one (AllX.cons ok_s_l01DrawFloat AllX.nil)))))
theorem ev_s_l08DrawSpring (s : dSrc) : evalX E_s_l08DrawSpring noL Try.f59 [.optr tSrc] (.one true tTurn) (s, ()) = g_s_l08DrawSpring s := by kernel_rfl
def m_s_l08DrawSpring : FX := { ps := [.optr tSrc], res := .one true tTurn, run := fun x => g_s_l08DrawSpring x.1 }
set_option maxRecDepth 4000 in
theorem ok_s_l08DrawSpring : FxOK Try.prog 59 m_s_l08DrawSpring := @FxOK.made Try.prog E_s_l08DrawSpring ek_s_l08DrawSpring 59 Try.f59 noL m_s_l08DrawSpring Try.func59 (by kernel_rfl) (Loops.none (by kernel_rfl)) fun ds out _ hr => by obtain ⟨s, ⟨⟩⟩ := ds; exact (ev_s_l08DrawSpring s).trans hr

def E_s_R8Spring : Tabs := (mkE tab [] [(51, m_s_l00From), (59, m_s_l08DrawSpring)])
set_option maxRecDepth 4000 in
theorem ek_s_R8Spring : EnvOK Try.prog E_s_R8Spring := (mkE_ok tab_ok mixed AllF.nil (AllX.cons ok_s_l00From (AllX.cons ok_s_l08DrawSpring AllX.nil)))
theorem ev_s_R8Spring (code : (List Int)) : evalF E_s_R8Spring noL Try.f40 [.ro false (.slice (.int .u8))] (.one true tTurn) (code, ()) = g_s_R8Spring code := by kernel_rfl
def m_s_R8Spring : FM := { ps := [.ro false (.slice (.int .u8))], res := .one true tTurn, run := fun x => g_s_R8Spring x.1 }
set_option maxRecDepth 4000 in
theorem ok_s_R8Spring : FmOK Try.prog 40 m_s_R8Spring := @FmOK.made Try.prog E_s_R8Spring ek_s_R8Spring 40 Try.f40 noL m_s_R8Spring Try.func40 (by kernel_rfl) (Loops.none (by kernel_rfl)) fun ds out _ hr => by obtain ⟨code, ⟨⟩⟩ := ds; exact (ev_s_R8Spring code).trans hr

def E_s_l01DrawFloats : Tabs := (mkE tab [] [(71, m_s_l00Src_one), (72, m_s_l01DrawFloat), (74, m_s_l01DrawPlain)])
set_option maxRecDepth 4000 in
theorem ek_s_l01DrawFloats : EnvOK Try.prog E_s_l01DrawFloats := (mkE_ok tab_ok mixed AllF.nil (AllX.cons ok_s_l00Src_one (AllX.cons ok_s_l01DrawFloat (AllX.cons ok_s_l01DrawPlain AllX.nil))))
def lm_L_s_l01DrawFloats_1 : LM := { mat := [], head := { slots := [(0, .cst (.ptr (.elem 0 0 0))), (1, .dat false (.int .i64)), (5, .cst (.sl (.row 1))), (6, .dat false .bool)], blks := [.one true tSrc, .row false (.flt .f32)] }, out := { slots := [(5, .cst (.sl (.row 1)))], blks := [.one true tSrc, .row false (.flt .f32)] }, ex := 0, rets := false, run := iter L_s_l01DrawFloats_1 fuel }
def ll_s_l01DrawFloats : List (Nat × LP) := [(3, .lm lm_L_s_l01DrawFloats_1)]
theorem rd_L_s_l01DrawFloats_1 (rec' : (Int × Bool × Unit) × (dSrc × (List Nat) × Unit) → Option ((Unit) × (dSrc × (List Nat) × Unit))) (n : Int) (strange : Bool) (s0 : dSrc) (r1 : (List Nat)) : round E_s_l01DrawFloats (lookL ll_s_l01DrawFloats) lm_L_s_l01DrawFloats_1 26 (loopAt Try.f61 0) rec' ((n, strange, ()), (s0, r1, ())) = L_s_l01DrawFloats_1 rec' ((n, strange, ()), (s0, r1, ())) := by kernel_rfl
theorem lo_s_l01DrawFloats : Loops E_s_l01DrawFloats (lookL ll_s_l01DrawFloats) Try.f61 := Loops.list (by kernel_rfl) (by kernel_rfl) ⟨LoopOK.iter (step := L_s_l01DrawFloats_1) (N := fun _ => fuel) (fun rec' x => by obtain ⟨⟨n, strange, ⟨⟩⟩, ⟨s0, r1, ⟨⟩⟩⟩ := x; exact rd_L_s_l01DrawFloats_1 rec' n strange s0 r1) fun _ => rfl, trivial⟩
theorem ev_s_l01DrawFloats (s : dSrc) (n : Int) : evalX E_s_l01DrawFloats (lookL ll_s_l01DrawFloats) Try.f61 [.optr tSrc, .ro false (.int .i64)] (.one false (.slice (.flt .f32))) (s, n, ()) = g_s_l01DrawFloats s n := by kernel_rfl
def m_s_l01DrawFloats : FX := { ps := [.optr tSrc, .ro false (.int .i64)], res := .one false (.slice (.flt .f32)), run := fun x => g_s_l01DrawFloats x.1 x.2.1 }
set_option maxRecDepth 4000 in
theorem ok_s_l01DrawFloats : FxOK Try.prog 61 m_s_l01DrawFloats := @FxOK.made Try.prog E_s_l01DrawFloats ek_s_l01DrawFloats 61 Try.f61 (lookL ll_s_l01DrawFloats) m_s_l01DrawFloats Try.func61 (by kernel_rfl) lo_s_l01DrawFloats fun ds out _ hr => by obtain ⟨s, n, ⟨⟩⟩ := ds; exact (ev_s_l01DrawFloats s n).trans hr

def E_s_R8Goals : Tabs := (mkE tab [] [(51, m_s_l00From), (60, m_s_l00Src_pick), (61, m_s_l01DrawFloats)])
set_option maxRecDepth 4000 in
theorem ek_s_R8Goals : EnvOK Try.prog E_s_R8Goals := (mkE_ok tab_ok mixed AllF.nil (AllX.cons ok_s_l00From (AllX.cons ok_s_l00Src_pick (AllX.cons ok_s_l01DrawFloats AllX.nil))))
theorem ev_s_R8Goals (code : (List Int)) (most : Int) : evalF E_s_R8Goals noL Try.f41 [.ro false (.slice (.int .u8)), .ro false (.int .i64)] (.one false (.slice (.flt .f32))) (code, most, ()) = g_s_R8Goals code most := by kernel_rfl
def m_s_R8Goals : FM := { ps := [.ro false (.slice (.int .u8)), .ro false (.int .i64)], res := .one false (.slice (.flt .f32)), run := fun x => g_s_R8Goals x.1 x.2.1 }
set_option maxRecDepth 4000 in
theorem ok_s_R8Goals : FmOK Try.prog 41 m_s_R8Goals := @FmOK.made Try.prog E_s_R8Goals ek_s_R8Goals 41 Try.f41 noL m_s_R8Goals Try.func41 (by kernel_rfl) (Loops.none (by kernel_rfl)) fun ds out _ hr => by obtain ⟨code, most, ⟨⟩⟩ := ds; exact (ev_s_R8Goals code most).trans hr

def E_w_r8At : Tabs := (mkE tab [] [])
set_option maxRecDepth 4000 in
theorem ek_w_r8At : EnvOK Try.prog E_w_r8At := (mkE_ok tab_ok mixed AllF.nil AllX.nil)
theorem ev_w_r8At (code : (List Int)) (k : Int) (n : Int) : evalF E_w_r8At noL Try.f21 [.ro false (.slice (.int .u8)), .ro false (.int .i64), .ro false (.int .i64)] (.one false (.int .i64)) (code, k, n, ()) = g_w_r8At code k n := by kernel_rfl
def m_w_r8At : FM := { ps := [.ro false (.slice (.int .u8)), .ro false (.int .i64), .ro false (.int .i64)], res := .one false (.int .i64), run := fun x => g_w_r8At x.1 x.2.1 x.2.2.1 }
set_option maxRecDepth 4000 in
theorem ok_w_r8At : FmOK Try.prog 21 m_w_r8At := @FmOK.made Try.prog E_w_r8At ek_w_r8At 21 Try.f21 noL m_w_r8At Try.func21 (by kernel_rfl) (Loops.none (by kernel_rfl)) fun ds out _ hr => by obtain ⟨code, k, n, ⟨⟩⟩ := ds; exact (ev_w_r8At code k n).trans hr

theorem xr_bits (b : Nat) (w : World) : (callFunc 67 #[.float .f64 b]).run Try.prog w = .ok (.value (.int .u64 b)) w := by
  rw [run_callFunc_extern (e := Extern.MathFloatBits.float64bits) Try.func67 rfl rfl (by kernel_rfl) (by kernel_rfl)]; rfl
theorem xr_from (n : Int) (w : World) : (callFunc 75 #[.int .u64 n]).run Try.prog w = .ok (.value (.float .f64 n.toNat)) w := by
  rw [run_callFunc_extern (e := Extern.MathFloatBits.float64frombits) Try.func75 rfl rfl (by kernel_rfl) (by kernel_rfl)]; rfl

set_option maxHeartbeats 400000 in
theorem xr_abs (b : Nat) (w : World) : Calls Try.prog 62 #[.float .f64 b] w fun e w' => e = .returned (.float .f64 (iandNot .u64 b (2 ^ 63)).toNat) ∧ w' = w := by
  have h1 := xr_bits
  have h2 := xr_from
  go_enter Try.func62, Try.ntmps62
  go_wp2
  go_ret
  exact ⟨rfl, rfl⟩
set_option maxRecDepth 4000 in
theorem ok_mathabs : FmOK Try.prog 62 m_mathabs := FmOK.abs Try.func62 rfl (by kernel_rfl) xr_abs

def E_i_IsSubnormal : Tabs := (mkE tab [(62, m_mathabs)] [])
set_option maxRecDepth 4000 in
theorem ek_i_IsSubnormal : EnvOK Try.prog E_i_IsSubnormal := (mkE_ok tab_ok mixed (AllF.cons ok_mathabs AllF.nil) AllX.nil)
theorem ev_i_IsSubnormal (xx : Nat) : evalF E_i_IsSubnormal noL Try.f42 [.ro false (.flt .f32)] (.one false .bool) (xx, ()) = g_i_IsSubnormal xx := by kernel_rfl
def m_i_IsSubnormal : FM := { ps := [.ro false (.flt .f32)], res := .one false .bool, run := fun x => some (t_i_IsSubnormal x.1) }
set_option maxRecDepth 4000 in
theorem ok_i_IsSubnormal : FmOK Try.prog 42 m_i_IsSubnormal := @FmOK.made Try.prog E_i_IsSubnormal ek_i_IsSubnormal 42 Try.f42 noL m_i_IsSubnormal Try.func42 (by kernel_rfl) (Loops.none (by kernel_rfl)) fun ds out _ hr => by obtain ⟨xx, ⟨⟩⟩ := ds; exact (ev_i_IsSubnormal xx).trans ((q_i_IsSubnormal xx).trans hr)

set_option maxRecDepth 4000 in
theorem ok_float64bits : FmOK Try.prog 67 m_float64bits := FmOK.bits (e := Extern.MathFloatBits.float64bits) Try.func67 (by kernel_rfl) rfl (by kernel_rfl) (by kernel_rfl) (fun _ _ => rfl) (by decide) (by decide)

set_option maxRecDepth 4000 in
theorem ok_float64frombits : FmOK Try.prog 75 m_float64frombits := FmOK.from (e := Extern.MathFloatBits.float64frombits) Try.func75 (by kernel_rfl) rfl (by kernel_rfl) (by kernel_rfl) (fun _ _ => rfl) (by decide) (by decide)

def E_math_Copysign : Tabs := (mkE tab [(67, m_float64bits), (75, m_float64frombits)] [])
set_option maxRecDepth 4000 in
theorem ek_math_Copysign : EnvOK Try.prog E_math_Copysign := (mkE_ok tab_ok mixed (AllF.cons ok_float64bits (AllF.cons ok_float64frombits AllF.nil)) AllX.nil)
theorem ev_math_Copysign (f : Nat) (sign : Nat) : evalF E_math_Copysign noL Try.f68 [.ro false (.flt .f64), .ro false (.flt .f64)] (.one false (.flt .f64)) (f, sign, ()) = g_math_Copysign f sign := by kernel_rfl
def m_math_Copysign : FM := { ps := [.ro false (.flt .f64), .ro false (.flt .f64)], res := .one false (.flt .f64), run := fun x => g_math_Copysign x.1 x.2.1 }
set_option maxRecDepth 4000 in
theorem ok_math_Copysign : FmOK Try.prog 68 m_math_Copysign := @FmOK.made Try.prog E_math_Copysign ek_math_Copysign 68 Try.f68 noL m_math_Copysign Try.func68 (by kernel_rfl) (Loops.none (by kernel_rfl)) fun ds out _ hr => by obtain ⟨f, sign, ⟨⟩⟩ := ds; exact (ev_math_Copysign f sign).trans hr

def E_i_FlushNumber : Tabs := (mkE tab [(42, m_i_IsSubnormal), (68, m_math_Copysign)] [])
set_option maxRecDepth 4000 in
theorem ek_i_FlushNumber : EnvOK Try.prog E_i_FlushNumber := (mkE_ok tab_ok mixed (AllF.cons ok_i_IsSubnormal (AllF.cons ok_math_Copysign AllF.nil)) AllX.nil)
theorem ev_i_FlushNumber (xx : Nat) : evalF E_i_FlushNumber noL Try.f57 [.ro false (.flt .f32)] (.one false (.flt .f32)) (xx, ()) = g_i_FlushNumber xx := by kernel_rfl
def m_i_FlushNumber : FM := { ps := [.ro false (.flt .f32)], res := .one false (.flt .f32), run := fun x => g_i_FlushNumber x.1 }
set_option maxRecDepth 4000 in
theorem ok_i_FlushNumber : FmOK Try.prog 57 m_i_FlushNumber := @FmOK.made Try.prog E_i_FlushNumber ek_i_FlushNumber 57 Try.f57 noL m_i_FlushNumber Try.func57 (by kernel_rfl) (Loops.none (by kernel_rfl)) fun ds out _ hr => by obtain ⟨xx, ⟨⟩⟩ := ds; exact (ev_i_FlushNumber xx).trans hr

def E_i_drawn : Tabs := (mkE tab [(57, m_i_FlushNumber)] [])
set_option maxRecDepth 4000 in
theorem ek_i_drawn : EnvOK Try.prog E_i_drawn := (mkE_ok tab_ok mixed (AllF.cons ok_i_FlushNumber AllF.nil) AllX.nil)
theorem ev_i_drawn (place : Nat) (speed : Nat) (stiff : Nat) (damp : Nat) (goal : Nat) : evalF E_i_drawn noL Try.f49 [.ro false (.flt .f32), .ro false (.flt .f32), .ro false (.flt .f32), .ro false (.flt .f32), .ro false (.flt .f32)] (.tup [(false, (.flt .f32)), (false, (.flt .f32))]) (place, speed, stiff, damp, goal, ()) = g_i_drawn place speed stiff damp goal := by kernel_rfl
def m_i_drawn : FM := { ps := [.ro false (.flt .f32), .ro false (.flt .f32), .ro false (.flt .f32), .ro false (.flt .f32), .ro false (.flt .f32)], res := .tup [(false, (.flt .f32)), (false, (.flt .f32))], run := fun x => g_i_drawn x.1 x.2.1 x.2.2.1 x.2.2.2.1 x.2.2.2.2.1 }
set_option maxRecDepth 4000 in
theorem ok_i_drawn : FmOK Try.prog 49 m_i_drawn := @FmOK.made Try.prog E_i_drawn ek_i_drawn 49 Try.f49 noL m_i_drawn Try.func49 (by kernel_rfl) (Loops.none (by kernel_rfl)) fun ds out _ hr => by obtain ⟨place, speed, stiff, damp, goal, ⟨⟩⟩ := ds; exact (ev_i_drawn place speed stiff damp goal).trans hr

def E_i_StepSpring : Tabs := (mkE tab [(49, m_i_drawn)] [])
set_option maxRecDepth 4000 in
theorem ek_i_StepSpring : EnvOK Try.prog E_i_StepSpring := (mkE_ok tab_ok mixed (AllF.cons ok_i_drawn AllF.nil) AllX.nil)
theorem ev_i_StepSpring (s : dTurn) (goal : Nat) : evalF E_i_StepSpring noL Try.f17 [.ro true tTurn, .ro false (.flt .f32)] (.one true tTurn) (s, goal, ()) = g_i_StepSpring s goal := by kernel_rfl
def m_i_StepSpring : FM := { ps := [.ro true tTurn, .ro false (.flt .f32)], res := .one true tTurn, run := fun x => g_i_StepSpring x.1 x.2.1 }
set_option maxRecDepth 4000 in
theorem ok_i_StepSpring : FmOK Try.prog 17 m_i_StepSpring := @FmOK.made Try.prog E_i_StepSpring ek_i_StepSpring 17 Try.f17 noL m_i_StepSpring Try.func17 (by kernel_rfl) (Loops.none (by kernel_rfl)) fun ds out _ hr => by obtain ⟨s, goal, ⟨⟩⟩ := ds; exact (ev_i_StepSpring s goal).trans hr

def E_i_RunSpring : Tabs := (mkE tab [(17, m_i_StepSpring)] [])
set_option maxRecDepth 4000 in
theorem ek_i_RunSpring : EnvOK Try.prog E_i_RunSpring := (mkE_ok tab_ok mixed (AllF.cons ok_i_StepSpring AllF.nil) AllX.nil)
def lm_L_i_RunSpring_1 : LM := { mat := [.slot 7 (.flt .f32)], head := { slots := [(2, .cst (.ptr (.box 0 0))), (5, .cst (.ptr (.box 1 0))), (7, .cst (.sl (.row 2))), (14, .dat false (.slice (.flt .f32))), (15, .dat false (.int .i64)), (16, .dat false (.int .i64))], blks := [.box [.dat tTurn], .box [.dat tTurn], .row false (.flt .f32)] }, out := { slots := [(2, .cst (.ptr (.box 0 0))), (5, .cst (.ptr (.box 1 0))), (7, .cst (.sl (.row 2)))], blks := [.box [.dat tTurn], .box [.dat tTurn], .row false (.flt .f32)] }, ex := 0, rets := false, run := iter L_i_RunSpring_1 fuel }
def ll_i_RunSpring : List (Nat × LP) := [(5, .lm lm_L_i_RunSpring_1)]
theorem rd_L_i_RunSpring_1 (rec' : ((List Nat) × Int × Int × Unit) × ((dTurn × Unit) × (dTurn × Unit) × (List Nat) × Unit) → Option ((Unit) × ((dTurn × Unit) × (dTurn × Unit) × (List Nat) × Unit))) (t14 : (List Nat)) (t15 : Int) (t16 : Int) (b0 : dTurn) (b1 : dTurn) (r2 : (List Nat)) : round E_i_RunSpring (lookL ll_i_RunSpring) lm_L_i_RunSpring_1 31 (loopAt Try.f36 0) rec' ((t14, t15, t16, ()), ((b0, ()), (b1, ()), r2, ())) = L_i_RunSpring_1 rec' ((t14, t15, t16, ()), ((b0, ()), (b1, ()), r2, ())) := by kernel_rfl
theorem lo_i_RunSpring : Loops E_i_RunSpring (lookL ll_i_RunSpring) Try.f36 := Loops.list (by kernel_rfl) (by kernel_rfl) ⟨LoopOK.iter (step := L_i_RunSpring_1) (N := fun _ => fuel) (fun rec' x => by obtain ⟨⟨t14, t15, t16, ⟨⟩⟩, ⟨⟨b0, ⟨⟩⟩, ⟨b1, ⟨⟩⟩, r2, ⟨⟩⟩⟩ := x; exact rd_L_i_RunSpring_1 rec' t14 t15 t16 b0 b1 r2) fun _ => rfl, trivial⟩
theorem ev_i_RunSpring (s : dTurn) (goals : (List Nat)) : evalF E_i_RunSpring (lookL ll_i_RunSpring) Try.f36 [.ro true tTurn, .ro false (.slice (.flt .f32))] (.tup [(false, (.slice (.flt .f32))), (true, tTurn), (false, .bool)]) (s, goals, ()) = g_i_RunSpring s goals := by kernel_rfl
def m_i_RunSpring : FM := { ps := [.ro true tTurn, .ro false (.slice (.flt .f32))], res := .tup [(false, (.slice (.flt .f32))), (true, tTurn), (false, .bool)], run := fun x => g_i_RunSpring x.1 x.2.1 }
set_option maxRecDepth 4000 in
theorem ok_i_RunSpring : FmOK Try.prog 36 m_i_RunSpring := @FmOK.made Try.prog E_i_RunSpring ek_i_RunSpring 36 Try.f36 (lookL ll_i_RunSpring) m_i_RunSpring Try.func36 (by kernel_rfl) lo_i_RunSpring fun ds out _ hr => by obtain ⟨s, goals, ⟨⟩⟩ := ds; exact (ev_i_RunSpring s goals).trans hr

def E_math_Signbit : Tabs := (mkE tab [(67, m_float64bits)] [])
set_option maxRecDepth 4000 in
theorem ek_math_Signbit : EnvOK Try.prog E_math_Signbit := (mkE_ok tab_ok mixed (AllF.cons ok_float64bits AllF.nil) AllX.nil)
theorem ev_math_Signbit (xx : Nat) : evalF E_math_Signbit noL Try.f56 [.ro false (.flt .f64)] (.one false .bool) (xx, ()) = g_math_Signbit xx := by kernel_rfl
def m_math_Signbit : FM := { ps := [.ro false (.flt .f64)], res := .one false .bool, run := fun x => g_math_Signbit x.1 }
set_option maxRecDepth 4000 in
theorem ok_math_Signbit : FmOK Try.prog 56 m_math_Signbit := @FmOK.made Try.prog E_math_Signbit ek_math_Signbit 56 Try.f56 noL m_math_Signbit Try.func56 (by kernel_rfl) (Loops.none (by kernel_rfl)) fun ds out _ hr => by obtain ⟨xx, ⟨⟩⟩ := ds; exact (ev_math_Signbit xx).trans hr

def E_i_SameNumber : Tabs := (mkE tab [(56, m_math_Signbit)] [])
set_option maxRecDepth 4000 in
theorem ek_i_SameNumber : EnvOK Try.prog E_i_SameNumber := (mkE_ok tab_ok mixed (AllF.cons ok_math_Signbit AllF.nil) AllX.nil)
theorem ev_i_SameNumber (a : Nat) (b : Nat) : evalF E_i_SameNumber noL Try.f32 [.ro false (.flt .f32), .ro false (.flt .f32)] (.one false .bool) (a, b, ()) = g_i_SameNumber a b := by kernel_rfl
def m_i_SameNumber : FM := { ps := [.ro false (.flt .f32), .ro false (.flt .f32)], res := .one false .bool, run := fun x => g_i_SameNumber x.1 x.2.1 }
set_option maxRecDepth 4000 in
theorem ok_i_SameNumber : FmOK Try.prog 32 m_i_SameNumber := @FmOK.made Try.prog E_i_SameNumber ek_i_SameNumber 32 Try.f32 noL m_i_SameNumber Try.func32 (by kernel_rfl) (Loops.none (by kernel_rfl)) fun ds out _ hr => by obtain ⟨a, b, ⟨⟩⟩ := ds; exact (ev_i_SameNumber a b).trans hr

def E_i_SameSpring : Tabs := (mkE tab [(32, m_i_SameNumber)] [])
set_option maxRecDepth 4000 in
theorem ek_i_SameSpring : EnvOK Try.prog E_i_SameSpring := (mkE_ok tab_ok mixed (AllF.cons ok_i_SameNumber AllF.nil) AllX.nil)
theorem ev_i_SameSpring (a : dTurn) (b : dTurn) : evalF E_i_SameSpring noL Try.f15 [.ro true tTurn, .ro true tTurn] (.one false .bool) (a, b, ()) = g_i_SameSpring a b := by kernel_rfl
def m_i_SameSpring : FM := { ps := [.ro true tTurn, .ro true tTurn], res := .one false .bool, run := fun x => g_i_SameSpring x.1 x.2.1 }
set_option maxRecDepth 4000 in
theorem ok_i_SameSpring : FmOK Try.prog 15 m_i_SameSpring := @FmOK.made Try.prog E_i_SameSpring ek_i_SameSpring 15 Try.f15 noL m_i_SameSpring Try.func15 (by kernel_rfl) (Loops.none (by kernel_rfl)) fun ds out _ hr => by obtain ⟨a, b, ⟨⟩⟩ := ds; exact (ev_i_SameSpring a b).trans hr

def E_w_r8Same : Tabs := (mkE tab [(32, m_i_SameNumber)] [])
set_option maxRecDepth 4000 in
theorem ek_w_r8Same : EnvOK Try.prog E_w_r8Same := (mkE_ok tab_ok mixed (AllF.cons ok_i_SameNumber AllF.nil) AllX.nil)
def lm_L_w_r8Same_1 : LM := { mat := [], head := { slots := [(0, .dat false (.slice (.flt .f32))), (1, .dat false (.slice (.flt .f32))), (4, .dat false .bool), (5, .dat false (.int .i64))], blks := [] }, out := { slots := [(4, .dat false .bool)], blks := [] }, ex := 0, rets := true, run := iter L_w_r8Same_1 fuel }
def ll_w_r8Same : List (Nat × LP) := [(4, .lm lm_L_w_r8Same_1)]
theorem rd_L_w_r8Same_1 (rec' : ((List Nat) × (List Nat) × Bool × Int × Unit) × (Unit) → Option (Bool × ((Bool × Unit) × (Unit)))) (a : (List Nat)) (b : (List Nat)) (t4 : Bool) (i : Int) : round E_w_r8Same (lookL ll_w_r8Same) lm_L_w_r8Same_1 27 (loopAt Try.f31 0) rec' ((a, b, t4, i, ()), (())) = L_w_r8Same_1 rec' ((a, b, t4, i, ()), (())) := by kernel_rfl
theorem lo_w_r8Same : Loops E_w_r8Same (lookL ll_w_r8Same) Try.f31 := Loops.list (by kernel_rfl) (by kernel_rfl) ⟨LoopOK.iter (step := L_w_r8Same_1) (N := fun _ => fuel) (fun rec' x => by obtain ⟨⟨a, b, t4, i, ⟨⟩⟩, ⟨⟨⟩⟩⟩ := x; exact rd_L_w_r8Same_1 rec' a b t4 i) fun _ => rfl, trivial⟩
theorem ev_w_r8Same (a : (List Nat)) (b : (List Nat)) : evalF E_w_r8Same (lookL ll_w_r8Same) Try.f31 [.ro false (.slice (.flt .f32)), .ro false (.slice (.flt .f32))] (.one false .bool) (a, b, ()) = g_w_r8Same a b := by kernel_rfl
def m_w_r8Same : FM := { ps := [.ro false (.slice (.flt .f32)), .ro false (.slice (.flt .f32))], res := .one false .bool, run := fun x => g_w_r8Same x.1 x.2.1 }
set_option maxRecDepth 4000 in
theorem ok_w_r8Same : FmOK Try.prog 31 m_w_r8Same := @FmOK.made Try.prog E_w_r8Same ek_w_r8Same 31 Try.f31 (lookL ll_w_r8Same) m_w_r8Same Try.func31 (by kernel_rfl) lo_w_r8Same fun ds out _ hr => by obtain ⟨a, b, ⟨⟩⟩ := ds; exact (ev_w_r8Same a b).trans hr

def E_s_R8Small : Tabs := (mkE tab [] [(51, m_s_l00From), (52, m_s_l01DrawSmall)])
set_option maxRecDepth 4000 in
theorem ek_s_R8Small : EnvOK Try.prog E_s_R8Small := (mkE_ok tab_ok mixed AllF.nil (AllX.cons ok_s_l00From (AllX.cons ok_s_l01DrawSmall AllX.nil)))
theorem ev_s_R8Small (code : (List Int)) : evalF E_s_R8Small noL Try.f20 [.ro false (.slice (.int .u8))] (.one true tVec) (code, ()) = g_s_R8Small code := by kernel_rfl
def m_s_R8Small : FM := { ps := [.ro false (.slice (.int .u8))], res := .one true tVec, run := fun x => g_s_R8Small x.1 }
set_option maxRecDepth 4000 in
theorem ok_s_R8Small : FmOK Try.prog 20 m_s_R8Small := @FmOK.made Try.prog E_s_R8Small ek_s_R8Small 20 Try.f20 noL m_s_R8Small Try.func20 (by kernel_rfl) (Loops.none (by kernel_rfl)) fun ds out _ hr => by obtain ⟨code, ⟨⟩⟩ := ds; exact (ev_s_R8Small code).trans hr

def E_i_StepPoint : Tabs := (mkE tab [(49, m_i_drawn)] [])
set_option maxRecDepth 4000 in
theorem ek_i_StepPoint : EnvOK Try.prog E_i_StepPoint := (mkE_ok tab_ok mixed (AllF.cons ok_i_drawn AllF.nil) AllX.nil)
theorem ev_i_StepPoint (p : dSpringPoint) (goal : dVec) : evalF E_i_StepPoint noL Try.f28 [.ro true tSpringPoint, .ro true tVec] (.one true tSpringPoint) (p, goal, ()) = g_i_StepPoint p goal := by kernel_rfl
def m_i_StepPoint : FM := { ps := [.ro true tSpringPoint, .ro true tVec], res := .one true tSpringPoint, run := fun x => g_i_StepPoint x.1 x.2.1 }
set_option maxRecDepth 4000 in
theorem ok_i_StepPoint : FmOK Try.prog 28 m_i_StepPoint := @FmOK.made Try.prog E_i_StepPoint ek_i_StepPoint 28 Try.f28 noL m_i_StepPoint Try.func28 (by kernel_rfl) (Loops.none (by kernel_rfl)) fun ds out _ hr => by obtain ⟨p, goal, ⟨⟩⟩ := ds; exact (ev_i_StepPoint p goal).trans hr

def E_w_FnSprings : Tabs := (mkE tab [(19, m_w_r8Long), (40, m_s_R8Spring), (41, m_s_R8Goals), (21, m_w_r8At), (36, m_i_RunSpring), (15, m_i_SameSpring), (31, m_w_r8Same), (17, m_i_StepSpring), (32, m_i_SameNumber), (42, m_i_IsSubnormal), (20, m_s_R8Small), (28, m_i_StepPoint)] [])
set_option maxRecDepth 4000 in
theorem ek_w_FnSprings : EnvOK Try.prog E_w_FnSprings := (mkE_ok tab_ok mixed (AllF.cons ok_w_r8Long (AllF.cons ok_s_R8Spring (AllF.cons ok_s_R8Goals (AllF.cons ok_w_r8At (AllF.cons ok_i_RunSpring (AllF.cons ok_i_SameSpring (AllF.cons ok_w_r8Same (AllF.cons ok_i_StepSpring (AllF.cons ok_i_SameNumber (AllF.cons ok_i_IsSubnormal (AllF.cons ok_s_R8Small (AllF.cons ok_i_StepPoint AllF.nil)))))))))))) AllX.nil)
def lm_L_w_FnSprings_1 : LM := { mat := [], head := { slots := [(0, .dat false (.slice (.int .u8))), (1, .dat false (.slice (.int .u8))), (4, .dat false .bool), (5, .cst (.ptr (.box 0 0))), (6, .cst (.sl (.row 1))), (8, .cst (.sl (.row 2))), (17, .cst (.ptr (.box 9 0))), (18, .dat false (.int .i64))], blks := [.box [.dat tTurn], .row false (.flt .f32), .row false (.flt .f32), .dead, .dead, .dead, .dead, .dead, .dead, .box [.dat tTurn]] }, out := { slots := [(0, .dat false (.slice (.int .u8))), (1, .dat false (.slice (.int .u8))), (4, .dat false .bool), (5, .cst (.ptr (.box 0 0)))], blks := [.box [.dat tTurn], .dead, .dead, .dead, .dead, .dead, .dead, .dead, .dead, .dead] }, ex := 0, rets := true, run := iter L_w_FnSprings_1 fuel }
def ll_w_FnSprings : List (Nat × LP) := [(13, .lm lm_L_w_FnSprings_1)]
theorem rd_L_w_FnSprings_1 (rec' : ((List Int) × (List Int) × Bool × Int × Unit) × ((dTurn × Unit) × (List Nat) × (List Nat) × (dTurn × Unit) × Unit) → Option (Bool × (((List Int) × (List Int) × Bool × Unit) × ((dTurn × Unit) × Unit)))) (code : (List Int)) (more : (List Int)) (t4 : Bool) (i : Int) (b0 : dTurn) (r1 : (List Nat)) (r2 : (List Nat)) (b9 : dTurn) : round E_w_FnSprings (lookL ll_w_FnSprings) lm_L_w_FnSprings_1 170 (loopAt Try.f10 0) rec' ((code, more, t4, i, ()), ((b0, ()), r1, r2, (b9, ()), ())) = L_w_FnSprings_1 rec' ((code, more, t4, i, ()), ((b0, ()), r1, r2, (b9, ()), ())) := by kernel_rfl
theorem lo_w_FnSprings : Loops E_w_FnSprings (lookL ll_w_FnSprings) Try.f10 := Loops.list (by kernel_rfl) (by kernel_rfl) ⟨LoopOK.iter (step := L_w_FnSprings_1) (N := fun _ => fuel) (fun rec' x => by obtain ⟨⟨code, more, t4, i, ⟨⟩⟩, ⟨⟨b0, ⟨⟩⟩, r1, r2, ⟨b9, ⟨⟩⟩, ⟨⟩⟩⟩ := x; exact rd_L_w_FnSprings_1 rec' code more t4 i b0 r1 r2 b9) fun _ => rfl, trivial⟩
theorem ev_w_FnSprings (code : (List Int)) (more : (List Int)) : evalF E_w_FnSprings (lookL ll_w_FnSprings) Try.f10 [.ro false (.slice (.int .u8)), .ro false (.slice (.int .u8))] (.one false .bool) (code, more, ()) = g_w_FnSprings code more := by kernel_rfl
end
end Go.Fw.S
