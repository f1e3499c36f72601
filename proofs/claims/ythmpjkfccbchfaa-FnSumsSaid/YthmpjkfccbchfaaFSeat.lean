/- The functions of the translation compute what the plain functions compute. No condition. -/
import Derived.Test.YthmpjkfccbchfaaFPure
import Derived.Test.YthmpjkfccbchfaaProg
import Derived.KernelRfl
set_option linter.unusedVariables false
namespace Go.Fw.F
open Go.Fw Go.Proofs Go.RowKit
noncomputable section
def tab : List (Nat × TI) := [
  (2, { und := .int .i64, size := 1, bytes := 8, zero := [.int .i64 0], ty := (.int .i64) }),
  (3, { und := .int .i64, size := 1, bytes := 8, zero := [.int .i64 0], ty := (.int .i64) }),
  (4, { und := .bool, size := 1, bytes := 1, zero := [.bool false], ty := .bool }),
  (5, { und := .int .u8, size := 1, bytes := 1, zero := [.int .u8 0], ty := (.int .u8) }),
  (22, { und := .slice 5, size := 1, bytes := 24, zero := [.sl .nil], ty := (.slice (.int .u8)) }),
  (24, { und := .flt .f32, size := 1, bytes := 4, zero := [.flt .f32 0], ty := (.flt .f32) }),
  (28, { und := .flt .f64, size := 1, bytes := 8, zero := [.flt .f64 0], ty := (.flt .f64) }),
  (43, { und := .slice 24, size := 1, bytes := 24, zero := [.sl .nil], ty := (.slice (.flt .f32)) }),
  (76, { und := .other, size := 1, bytes := 8, zero := [.pnil], ty := .unit }),
  (82, { und := .int .u32, size := 1, bytes := 4, zero := [.int .u32 0], ty := (.int .u32) }),
  (97, { und := .int .u64, size := 1, bytes := 8, zero := [.int .u64 0], ty := (.int .u64) }),
  (99, { und := .struct [(0, 22), (1, 3), (2, 97)], size := 3, bytes := 40, zero := [.sl .nil, .int .i64 0, .int .u64 0], ty := (.pair (.slice (.int .u8)) (.pair (.int .i64) (.pair (.int .u64) .unit))) }),
  (102, { und := .slice 2, size := 1, bytes := 24, zero := [.sl .nil], ty := (.slice (.int .i64)) })]
theorem tab_ok : TabOK Try.prog (lookT tab) := tabB_spec (by kernel_rfl)
theorem mixed : Try.prog.follows .mixedOrders = true := by kernel_rfl
def E_w_b10Long : Tabs := (mkE tab [] [])
set_option maxRecDepth 4000 in
theorem ek_w_b10Long : EnvOK Try.prog E_w_b10Long := (mkE_ok tab_ok mixed AllF.nil AllX.nil)
theorem ev_w_b10Long (code : (List Int)) (more : (List Int)) : evalF E_w_b10Long noL Try.f13 [.ro false (.slice (.int .u8)), .ro false (.slice (.int .u8))] (.one false .bool) (code, more, ()) = g_w_b10Long code more := by kernel_rfl
def m_w_b10Long : FM := { ps := [.ro false (.slice (.int .u8)), .ro false (.slice (.int .u8))], res := .one false .bool, run := fun x => some (t_w_b10Long x.1 x.2.1) }
set_option maxRecDepth 4000 in
theorem ok_w_b10Long : FmOK Try.prog 13 m_w_b10Long := @FmOK.made Try.prog E_w_b10Long ek_w_b10Long 13 Try.f13 noL m_w_b10Long Try.func13 (by kernel_rfl) (Loops.none (by kernel_rfl)) fun ds out _ hr => by obtain ⟨code, more, ⟨⟩⟩ := ds; exact (ev_w_b10Long code more).trans ((q_w_b10Long code more).trans hr)

def E_w_b10At : Tabs := (mkE tab [] [])
set_option maxRecDepth 4000 in
theorem ek_w_b10At : EnvOK Try.prog E_w_b10At := (mkE_ok tab_ok mixed AllF.nil AllX.nil)
theorem ev_w_b10At (code : (List Int)) (i : Int) (n : Int) : evalF E_w_b10At noL Try.f32 [.ro false (.slice (.int .u8)), .ro false (.int .i64), .ro false (.int .i64)] (.one false (.int .i64)) (code, i, n, ()) = g_w_b10At code i n := by kernel_rfl
def m_w_b10At : FM := { ps := [.ro false (.slice (.int .u8)), .ro false (.int .i64), .ro false (.int .i64)], res := .one false (.int .i64), run := fun x => g_w_b10At x.1 x.2.1 x.2.2.1 }
set_option maxRecDepth 4000 in
theorem ok_w_b10At : FmOK Try.prog 32 m_w_b10At := @FmOK.made Try.prog E_w_b10At ek_w_b10At 32 Try.f32 noL m_w_b10At Try.func32 (by kernel_rfl) (Loops.none (by kernel_rfl)) fun ds out _ hr => by obtain ⟨code, i, n, ⟨⟩⟩ := ds; exact (ev_w_b10At code i n).trans hr

def E_s_l00From : Tabs := (mkE tab [] [])
set_option maxRecDepth 4000 in
theorem ek_s_l00From : EnvOK Try.prog E_s_l00From := (mkE_ok tab_ok mixed AllF.nil AllX.nil)
theorem ev_s_l00From (code : (List Int)) : evalX E_s_l00From noL Try.f67 [.ro false (.slice (.int .u8))] (.box tSrc) (code, ()) = g_s_l00From code := by kernel_rfl
def m_s_l00From : FX := { ps := [.ro false (.slice (.int .u8))], res := .box tSrc, run := fun x => some (t_s_l00From x.1) }
set_option maxRecDepth 4000 in
theorem ok_s_l00From : FxOK Try.prog 67 m_s_l00From := @FxOK.made Try.prog E_s_l00From ek_s_l00From 67 Try.f67 noL m_s_l00From Try.func67 (by kernel_rfl) (Loops.none (by kernel_rfl)) fun ds out _ hr => by obtain ⟨code, ⟨⟩⟩ := ds; exact (ev_s_l00From code).trans ((q_s_l00From code).trans hr)

def E_s_l00Src_next : Tabs := (mkE tab [] [])
set_option maxRecDepth 4000 in
theorem ek_s_l00Src_next : EnvOK Try.prog E_s_l00Src_next := (mkE_ok tab_ok mixed AllF.nil AllX.nil)
theorem ev_s_l00Src_next (s : dSrc) : evalX E_s_l00Src_next noL Try.f109 [.optr tSrc] (.one false (.int .i64)) (s, ()) = g_s_l00Src_next s := by kernel_rfl
def m_s_l00Src_next : FX := { ps := [.optr tSrc], res := .one false (.int .i64), run := fun x => g_s_l00Src_next x.1 }
set_option maxRecDepth 4000 in
theorem ok_s_l00Src_next : FxOK Try.prog 109 m_s_l00Src_next := @FxOK.made Try.prog E_s_l00Src_next ek_s_l00Src_next 109 Try.f109 noL m_s_l00Src_next Try.func109 (by kernel_rfl) (Loops.none (by kernel_rfl)) fun ds out _ hr => by obtain ⟨s, ⟨⟩⟩ := ds; exact (ev_s_l00Src_next s).trans hr

def E_s_l00Src_pick : Tabs := (mkE tab [] [(109, m_s_l00Src_next)])
set_option maxRecDepth 4000 in
theorem ek_s_l00Src_pick : EnvOK Try.prog E_s_l00Src_pick := (mkE_ok tab_ok mixed AllF.nil (AllX.cons ok_s_l00Src_next AllX.nil))
theorem ev_s_l00Src_pick (s : dSrc) (n : Int) : evalX E_s_l00Src_pick noL Try.f69 [.optr tSrc, .ro false (.int .i64)] (.one false (.int .i64)) (s, n, ()) = g_s_l00Src_pick s n := by kernel_rfl
def m_s_l00Src_pick : FX := { ps := [.optr tSrc, .ro false (.int .i64)], res := .one false (.int .i64), run := fun x => g_s_l00Src_pick x.1 x.2.1 }
set_option maxRecDepth 4000 in
theorem ok_s_l00Src_pick : FxOK Try.prog 69 m_s_l00Src_pick := @FxOK.made Try.prog E_s_l00Src_pick ek_s_l00Src_pick 69 Try.f69 noL m_s_l00Src_pick Try.func69 (by kernel_rfl) (Loops.none (by kernel_rfl)) fun ds out _ hr => by obtain ⟨s, n, ⟨⟩⟩ := ds; exact (ev_s_l00Src_pick s n).trans hr

def E_s_l00Src_one : Tabs := (mkE tab [] [(69, m_s_l00Src_pick)])
set_option maxRecDepth 4000 in
theorem ek_s_l00Src_one : EnvOK Try.prog E_s_l00Src_one := (mkE_ok tab_ok mixed AllF.nil (AllX.cons ok_s_l00Src_pick AllX.nil))
theorem ev_s_l00Src_one (s : dSrc) (n : Int) : evalX E_s_l00Src_one noL Try.f68 [.optr tSrc, .ro false (.int .i64)] (.one false .bool) (s, n, ()) = g_s_l00Src_one s n := by kernel_rfl
def m_s_l00Src_one : FX := { ps := [.optr tSrc, .ro false (.int .i64)], res := .one false .bool, run := fun x => g_s_l00Src_one x.1 x.2.1 }
set_option maxRecDepth 4000 in
theorem ok_s_l00Src_one : FxOK Try.prog 68 m_s_l00Src_one := @FxOK.made Try.prog E_s_l00Src_one ek_s_l00Src_one 68 Try.f68 noL m_s_l00Src_one Try.func68 (by kernel_rfl) (Loops.none (by kernel_rfl)) fun ds out _ hr => by obtain ⟨s, n, ⟨⟩⟩ := ds; exact (ev_s_l00Src_one s n).trans hr

def E_s_l01DrawPlain : Tabs := (mkE tab [] [(69, m_s_l00Src_pick), (68, m_s_l00Src_one)])
set_option maxRecDepth 4000 in
theorem ek_s_l01DrawPlain : EnvOK Try.prog E_s_l01DrawPlain := (mkE_ok tab_ok mixed AllF.nil (AllX.cons ok_s_l00Src_pick (AllX.cons ok_s_l00Src_one AllX.nil)))
theorem ev_s_l01DrawPlain (s : dSrc) : evalX E_s_l01DrawPlain noL Try.f110 [.optr tSrc] (.one false (.flt .f32)) (s, ()) = g_s_l01DrawPlain s := by kernel_rfl
def m_s_l01DrawPlain : FX := { ps := [.optr tSrc], res := .one false (.flt .f32), run := fun x => g_s_l01DrawPlain x.1 }
set_option maxRecDepth 4000 in
theorem ok_s_l01DrawPlain : FxOK Try.prog 110 m_s_l01DrawPlain := @FxOK.made Try.prog E_s_l01DrawPlain ek_s_l01DrawPlain 110 Try.f110 noL m_s_l01DrawPlain Try.func110 (by kernel_rfl) (Loops.none (by kernel_rfl)) fun ds out _ hr => by obtain ⟨s, ⟨⟩⟩ := ds; exact (ev_s_l01DrawPlain s).trans hr

def E_s_l00Src_among : Tabs := (mkE tab [] [(69, m_s_l00Src_pick)])
set_option maxRecDepth 4000 in
theorem ek_s_l00Src_among : EnvOK Try.prog E_s_l00Src_among := (mkE_ok tab_ok mixed AllF.nil (AllX.cons ok_s_l00Src_pick AllX.nil))
theorem ev_s_l00Src_among (s : dSrc) (list : (List Int)) : evalX E_s_l00Src_among noL Try.f111 [.optr tSrc, .own false (.slice (.int .i64))] (.one false (.int .i64)) (s, list, ()) = g_s_l00Src_among s list := by kernel_rfl
def m_s_l00Src_among : FX := { ps := [.optr tSrc, .own false (.slice (.int .i64))], res := .one false (.int .i64), run := fun x => g_s_l00Src_among x.1 x.2.1 }
set_option maxRecDepth 4000 in
theorem ok_s_l00Src_among : FxOK Try.prog 111 m_s_l00Src_among := @FxOK.made Try.prog E_s_l00Src_among ek_s_l00Src_among 111 Try.f111 noL m_s_l00Src_among Try.func111 (by kernel_rfl) (Loops.none (by kernel_rfl)) fun ds out _ hr => by obtain ⟨s, list, ⟨⟩⟩ := ds; exact (ev_s_l00Src_among s list).trans hr

set_option maxRecDepth 4000 in
theorem ok_float32frombits : FmOK Try.prog 77 m_float32frombits := FmOK.from (e := Extern.MathFloatBits.float32frombits) Try.func77 (by kernel_rfl) rfl (by kernel_rfl) (by kernel_rfl) (fun _ _ => rfl) (by decide) (by decide)

def E_s_l01From : Tabs := (mkE tab [(77, m_float32frombits)] [])
set_option maxRecDepth 4000 in
theorem ek_s_l01From : EnvOK Try.prog E_s_l01From := (mkE_ok tab_ok mixed (AllF.cons ok_float32frombits AllF.nil) AllX.nil)
theorem ev_s_l01From (n : Int) : evalF E_s_l01From noL Try.f70 [.ro false (.int .i64)] (.one false (.flt .f32)) (n, ()) = g_s_l01From n := by kernel_rfl
def m_s_l01From : FM := { ps := [.ro false (.int .i64)], res := .one false (.flt .f32), run := fun x => some (t_s_l01From x.1) }
set_option maxRecDepth 4000 in
theorem ok_s_l01From : FmOK Try.prog 70 m_s_l01From := @FmOK.made Try.prog E_s_l01From ek_s_l01From 70 Try.f70 noL m_s_l01From Try.func70 (by kernel_rfl) (Loops.none (by kernel_rfl)) fun ds out _ hr => by obtain ⟨n, ⟨⟩⟩ := ds; exact (ev_s_l01From n).trans ((q_s_l01From n).trans hr)

def E_s_l01DrawFloat : Tabs := (mkE tab [(70, m_s_l01From)] [(68, m_s_l00Src_one), (110, m_s_l01DrawPlain), (69, m_s_l00Src_pick), (111, m_s_l00Src_among)])
set_option maxRecDepth 4000 in
theorem ek_s_l01DrawFloat : EnvOK Try.prog E_s_l01DrawFloat := (mkE_ok tab_ok mixed (AllF.cons ok_s_l01From AllF.nil) (AllX.cons ok_s_l00Src_one (AllX.cons ok_s_l01DrawPlain (AllX.cons ok_s_l00Src_pick (AllX.cons ok_s_l00Src_among AllX.nil)))))
theorem ev_s_l01DrawFloat (s : dSrc) : evalX E_s_l01DrawFloat noL Try.f71 [.optr tSrc] (.one false (.flt .f32)) (s, ()) = g_s_l01DrawFloat s := by kernel_rfl
def m_s_l01DrawFloat : FX := { ps := [.optr tSrc], res := .one false (.flt .f32), run := fun x => g_s_l01DrawFloat x.1 }
set_option maxRecDepth 4000 in
theorem ok_s_l01DrawFloat : FxOK Try.prog 71 m_s_l01DrawFloat := @FxOK.made Try.prog E_s_l01DrawFloat ek_s_l01DrawFloat 71 Try.f71 noL m_s_l01DrawFloat Try.func71 (by kernel_rfl) (Loops.none (by kernel_rfl)) fun ds out _ hr => by obtain ⟨s, ⟨⟩⟩ := ds; exact (ev_s_l01DrawFloat s).trans hr

def E_s_l01DrawFloats : Tabs := (mkE tab [] [(68, m_s_l00Src_one), (71, m_s_l01DrawFloat), (110, m_s_l01DrawPlain)])
set_option maxRecDepth 4000 in
theorem ek_s_l01DrawFloats : EnvOK Try.prog E_s_l01DrawFloats := (mkE_ok tab_ok mixed AllF.nil (AllX.cons ok_s_l00Src_one (AllX.cons ok_s_l01DrawFloat (AllX.cons ok_s_l01DrawPlain AllX.nil))))
def lm_L_s_l01DrawFloats_1 : LM := { mat := [], head := { slots := [(0, .cst (.ptr (.elem 0 0 0))), (1, .dat false (.int .i64)), (5, .cst (.sl (.row 1))), (6, .dat false .bool)], blks := [.one true tSrc, .row false (.flt .f32)] }, out := { slots := [(5, .cst (.sl (.row 1)))], blks := [.one true tSrc, .row false (.flt .f32)] }, ex := 0, rets := false, run := iter L_s_l01DrawFloats_1 fuel }
def ll_s_l01DrawFloats : List (Nat × LP) := [(3, .lm lm_L_s_l01DrawFloats_1)]
theorem rd_L_s_l01DrawFloats_1 (rec' : (Int × Bool × Unit) × (dSrc × (List Nat) × Unit) → Option ((Unit) × (dSrc × (List Nat) × Unit))) (n : Int) (strange : Bool) (s0 : dSrc) (r1 : (List Nat)) : round E_s_l01DrawFloats (lookL ll_s_l01DrawFloats) lm_L_s_l01DrawFloats_1 26 (loopAt Try.f85 0) rec' ((n, strange, ()), (s0, r1, ())) = L_s_l01DrawFloats_1 rec' ((n, strange, ()), (s0, r1, ())) := by kernel_rfl
theorem lo_s_l01DrawFloats : Loops E_s_l01DrawFloats (lookL ll_s_l01DrawFloats) Try.f85 := Loops.list (by kernel_rfl) (by kernel_rfl) ⟨LoopOK.iter (step := L_s_l01DrawFloats_1) (N := fun _ => fuel) (fun rec' x => by obtain ⟨⟨n, strange, ⟨⟩⟩, ⟨s0, r1, ⟨⟩⟩⟩ := x; exact rd_L_s_l01DrawFloats_1 rec' n strange s0 r1) fun _ => rfl, trivial⟩
theorem ev_s_l01DrawFloats (s : dSrc) (n : Int) : evalX E_s_l01DrawFloats (lookL ll_s_l01DrawFloats) Try.f85 [.optr tSrc, .ro false (.int .i64)] (.one false (.slice (.flt .f32))) (s, n, ()) = g_s_l01DrawFloats s n := by kernel_rfl
def m_s_l01DrawFloats : FX := { ps := [.optr tSrc, .ro false (.int .i64)], res := .one false (.slice (.flt .f32)), run := fun x => g_s_l01DrawFloats x.1 x.2.1 }
set_option maxRecDepth 4000 in
theorem ok_s_l01DrawFloats : FxOK Try.prog 85 m_s_l01DrawFloats := @FxOK.made Try.prog E_s_l01DrawFloats ek_s_l01DrawFloats 85 Try.f85 (lookL ll_s_l01DrawFloats) m_s_l01DrawFloats Try.func85 (by kernel_rfl) lo_s_l01DrawFloats fun ds out _ hr => by obtain ⟨s, n, ⟨⟩⟩ := ds; exact (ev_s_l01DrawFloats s n).trans hr

def E_s_B10Numbers : Tabs := (mkE tab [] [(67, m_s_l00From), (85, m_s_l01DrawFloats)])
set_option maxRecDepth 4000 in
theorem ek_s_B10Numbers : EnvOK Try.prog E_s_B10Numbers := (mkE_ok tab_ok mixed AllF.nil (AllX.cons ok_s_l00From (AllX.cons ok_s_l01DrawFloats AllX.nil)))
theorem ev_s_B10Numbers (code : (List Int)) (n : Int) : evalF E_s_B10Numbers noL Try.f33 [.ro false (.slice (.int .u8)), .ro false (.int .i64)] (.one false (.slice (.flt .f32))) (code, n, ()) = g_s_B10Numbers code n := by kernel_rfl
def m_s_B10Numbers : FM := { ps := [.ro false (.slice (.int .u8)), .ro false (.int .i64)], res := .one false (.slice (.flt .f32)), run := fun x => g_s_B10Numbers x.1 x.2.1 }
set_option maxRecDepth 4000 in
theorem ok_s_B10Numbers : FmOK Try.prog 33 m_s_B10Numbers := @FmOK.made Try.prog E_s_B10Numbers ek_s_B10Numbers 33 Try.f33 noL m_s_B10Numbers Try.func33 (by kernel_rfl) (Loops.none (by kernel_rfl)) fun ds out _ hr => by obtain ⟨code, n, ⟨⟩⟩ := ds; exact (ev_s_B10Numbers code n).trans hr

def E_i_sum : Tabs := (mkE tab [] [])
set_option maxRecDepth 4000 in
theorem ek_i_sum : EnvOK Try.prog E_i_sum := (mkE_ok tab_ok mixed AllF.nil AllX.nil)
def lm_L_i_sum_1 : LM := { mat := [], head := { slots := [(3, .dat false (.flt .f32)), (6, .dat false (.slice (.flt .f32))), (7, .dat false (.int .i64)), (8, .dat false (.int .i64))], blks := [] }, out := { slots := [(3, .dat false (.flt .f32))], blks := [] }, ex := 0, rets := false, run := iter L_i_sum_1 fuel }
def ll_i_sum : List (Nat × LP) := [(3, .lm lm_L_i_sum_1)]
theorem rd_L_i_sum_1 (rec' : (Nat × (List Nat) × Int × Int × Unit) × (Unit) → Option ((Nat × Unit) × (Unit))) (s : Nat) (t6 : (List Nat)) (t7 : Int) (t8 : Int) : round E_i_sum (lookL ll_i_sum) lm_L_i_sum_1 17 (loopAt Try.f86 0) rec' ((s, t6, t7, t8, ()), (())) = L_i_sum_1 rec' ((s, t6, t7, t8, ()), (())) := by kernel_rfl
theorem lo_i_sum : Loops E_i_sum (lookL ll_i_sum) Try.f86 := Loops.list (by kernel_rfl) (by kernel_rfl) ⟨LoopOK.iter (step := L_i_sum_1) (N := fun _ => fuel) (fun rec' x => by obtain ⟨⟨s, t6, t7, t8, ⟨⟩⟩, ⟨⟨⟩⟩⟩ := x; exact rd_L_i_sum_1 rec' s t6 t7 t8) fun _ => rfl, trivial⟩
theorem ev_i_sum (list : (List Nat)) : evalF E_i_sum (lookL ll_i_sum) Try.f86 [.ro false (.slice (.flt .f32))] (.one false (.flt .f32)) (list, ()) = g_i_sum list := by kernel_rfl
def m_i_sum : FM := { ps := [.ro false (.slice (.flt .f32))], res := .one false (.flt .f32), run := fun x => g_i_sum x.1 }
set_option maxRecDepth 4000 in
theorem ok_i_sum : FmOK Try.prog 86 m_i_sum := @FmOK.made Try.prog E_i_sum ek_i_sum 86 Try.f86 (lookL ll_i_sum) m_i_sum Try.func86 (by kernel_rfl) lo_i_sum fun ds out _ hr => by obtain ⟨list, ⟨⟩⟩ := ds; exact (ev_i_sum list).trans hr

def E_i_SumNumbers : Tabs := (mkE tab [(86, m_i_sum)] [])
set_option maxRecDepth 4000 in
theorem ek_i_SumNumbers : EnvOK Try.prog E_i_SumNumbers := (mkE_ok tab_ok mixed (AllF.cons ok_i_sum AllF.nil) AllX.nil)
theorem ev_i_SumNumbers (list : (List Nat)) : evalF E_i_SumNumbers noL Try.f34 [.ro false (.slice (.flt .f32))] (.tup [(false, (.flt .f32)), (false, .bool)]) (list, ()) = g_i_SumNumbers list := by kernel_rfl
def m_i_SumNumbers : FM := { ps := [.ro false (.slice (.flt .f32))], res := .tup [(false, (.flt .f32)), (false, .bool)], run := fun x => g_i_SumNumbers x.1 }
set_option maxRecDepth 4000 in
theorem ok_i_SumNumbers : FmOK Try.prog 34 m_i_SumNumbers := @FmOK.made Try.prog E_i_SumNumbers ek_i_SumNumbers 34 Try.f34 noL m_i_SumNumbers Try.func34 (by kernel_rfl) (Loops.none (by kernel_rfl)) fun ds out _ hr => by obtain ⟨list, ⟨⟩⟩ := ds; exact (ev_i_SumNumbers list).trans hr

def E_i_DotNumbers : Tabs := (mkE tab [] [])
set_option maxRecDepth 4000 in
theorem ek_i_DotNumbers : EnvOK Try.prog E_i_DotNumbers := (mkE_ok tab_ok mixed AllF.nil AllX.nil)
def lm_L_i_DotNumbers_1 : LM := { mat := [], head := { slots := [(1, .dat false (.slice (.flt .f32))), (6, .dat false (.flt .f32)), (19, .dat false (.slice (.flt .f32))), (20, .dat false (.int .i64)), (21, .dat false (.int .i64))], blks := [] }, out := { slots := [(6, .dat false (.flt .f32))], blks := [] }, ex := 0, rets := false, run := iter L_i_DotNumbers_1 fuel }
def ll_i_DotNumbers : List (Nat × LP) := [(5, .lm lm_L_i_DotNumbers_1)]
theorem rd_L_i_DotNumbers_1 (rec' : ((List Nat) × Nat × (List Nat) × Int × Int × Unit) × (Unit) → Option ((Nat × Unit) × (Unit))) (b : (List Nat)) (s : Nat) (t19 : (List Nat)) (t20 : Int) (t21 : Int) : round E_i_DotNumbers (lookL ll_i_DotNumbers) lm_L_i_DotNumbers_1 36 (loopAt Try.f35 0) rec' ((b, s, t19, t20, t21, ()), (())) = L_i_DotNumbers_1 rec' ((b, s, t19, t20, t21, ()), (())) := by kernel_rfl
theorem lo_i_DotNumbers : Loops E_i_DotNumbers (lookL ll_i_DotNumbers) Try.f35 := Loops.list (by kernel_rfl) (by kernel_rfl) ⟨LoopOK.iter (step := L_i_DotNumbers_1) (N := fun _ => fuel) (fun rec' x => by obtain ⟨⟨b, s, t19, t20, t21, ⟨⟩⟩, ⟨⟨⟩⟩⟩ := x; exact rd_L_i_DotNumbers_1 rec' b s t19 t20 t21) fun _ => rfl, trivial⟩
theorem ev_i_DotNumbers (a : (List Nat)) (b : (List Nat)) : evalF E_i_DotNumbers (lookL ll_i_DotNumbers) Try.f35 [.ro false (.slice (.flt .f32)), .ro false (.slice (.flt .f32))] (.tup [(false, (.flt .f32)), (false, .bool)]) (a, b, ()) = g_i_DotNumbers a b := by kernel_rfl
def m_i_DotNumbers : FM := { ps := [.ro false (.slice (.flt .f32)), .ro false (.slice (.flt .f32))], res := .tup [(false, (.flt .f32)), (false, .bool)], run := fun x => g_i_DotNumbers x.1 x.2.1 }
set_option maxRecDepth 4000 in
theorem ok_i_DotNumbers : FmOK Try.prog 35 m_i_DotNumbers := @FmOK.made Try.prog E_i_DotNumbers ek_i_DotNumbers 35 Try.f35 (lookL ll_i_DotNumbers) m_i_DotNumbers Try.func35 (by kernel_rfl) lo_i_DotNumbers fun ds out _ hr => by obtain ⟨a, b, ⟨⟩⟩ := ds; exact (ev_i_DotNumbers a b).trans hr

def mR_i_sumPairs (rec' : (List Nat) → Option (Nat)) : FM := { ps := [.ro false (.slice (.flt .f32))], res := .one false (.flt .f32), run := fun x => rec' x.1 }
def E_i_sumPairs (rec' : (List Nat) → Option (Nat)) : Tabs := (mkE tab [(87, mR_i_sumPairs rec')] [])
theorem ev_i_sumPairs (rec' : (List Nat) → Option (Nat)) (list : (List Nat)) : evalF (E_i_sumPairs rec') noL Try.f87 [.ro false (.slice (.flt .f32))] (.one false (.flt .f32)) (list, ()) = L_i_sumPairs rec' list := by kernel_rfl
set_option maxRecDepth 4000 in
theorem okn_i_sumPairs : ∀ n : Nat, FmOK Try.prog 87 (mR_i_sumPairs (g_i_sumPairs_ n))
  | 0 => fun w args ds out _ hr => by cases hr
  | n + 1 => @FmOK.made Try.prog (E_i_sumPairs (g_i_sumPairs_ n)) (mkE_ok tab_ok mixed (AllF.cons (okn_i_sumPairs n) AllF.nil) AllX.nil) 87 Try.f87 noL (mR_i_sumPairs (g_i_sumPairs_ (n + 1))) Try.func87 (by kernel_rfl) (Loops.none (by kernel_rfl)) fun ds out _ hr => by obtain ⟨list, ⟨⟩⟩ := ds; exact (ev_i_sumPairs _ list).trans hr
def m_i_sumPairs : FM := { ps := [.ro false (.slice (.flt .f32))], res := .one false (.flt .f32), run := fun x => g_i_sumPairs x.1 }
set_option maxRecDepth 4000 in
theorem ok_i_sumPairs : FmOK Try.prog 87 m_i_sumPairs := okn_i_sumPairs 64


def E_i_SumPairs : Tabs := (mkE tab [(87, m_i_sumPairs)] [])
set_option maxRecDepth 4000 in
theorem ek_i_SumPairs : EnvOK Try.prog E_i_SumPairs := (mkE_ok tab_ok mixed (AllF.cons ok_i_sumPairs AllF.nil) AllX.nil)
theorem ev_i_SumPairs (list : (List Nat)) : evalF E_i_SumPairs noL Try.f36 [.ro false (.slice (.flt .f32))] (.tup [(false, (.flt .f32)), (false, .bool)]) (list, ()) = g_i_SumPairs list := by kernel_rfl
def m_i_SumPairs : FM := { ps := [.ro false (.slice (.flt .f32))], res := .tup [(false, (.flt .f32)), (false, .bool)], run := fun x => g_i_SumPairs x.1 }
set_option maxRecDepth 4000 in
theorem ok_i_SumPairs : FmOK Try.prog 36 m_i_SumPairs := @FmOK.made Try.prog E_i_SumPairs ek_i_SumPairs 36 Try.f36 noL m_i_SumPairs Try.func36 (by kernel_rfl) (Loops.none (by kernel_rfl)) fun ds out _ hr => by obtain ⟨list, ⟨⟩⟩ := ds; exact (ev_i_SumPairs list).trans hr

set_option maxRecDepth 4000 in
theorem ok_float32bits : FmOK Try.prog 76 m_float32bits := FmOK.bits (e := Extern.MathFloatBits.float32bits) Try.func76 (by kernel_rfl) rfl (by kernel_rfl) (by kernel_rfl) (fun _ _ => rfl) (by decide) (by decide)

def E_s_l01Bits : Tabs := (mkE tab [(76, m_float32bits)] [])
set_option maxRecDepth 4000 in
theorem ek_s_l01Bits : EnvOK Try.prog E_s_l01Bits := (mkE_ok tab_ok mixed (AllF.cons ok_float32bits AllF.nil) AllX.nil)
theorem ev_s_l01Bits (xx : Nat) : evalF E_s_l01Bits noL Try.f75 [.ro false (.flt .f32)] (.one false (.int .i64)) (xx, ()) = g_s_l01Bits xx := by kernel_rfl
def m_s_l01Bits : FM := { ps := [.ro false (.flt .f32)], res := .one false (.int .i64), run := fun x => g_s_l01Bits x.1 }
set_option maxRecDepth 4000 in
theorem ok_s_l01Bits : FmOK Try.prog 75 m_s_l01Bits := @FmOK.made Try.prog E_s_l01Bits ek_s_l01Bits 75 Try.f75 noL m_s_l01Bits Try.func75 (by kernel_rfl) (Loops.none (by kernel_rfl)) fun ds out _ hr => by obtain ⟨xx, ⟨⟩⟩ := ds; exact (ev_s_l01Bits xx).trans hr

def E_s_l01Same : Tabs := (mkE tab [(75, m_s_l01Bits)] [])
set_option maxRecDepth 4000 in
theorem ek_s_l01Same : EnvOK Try.prog E_s_l01Same := (mkE_ok tab_ok mixed (AllF.cons ok_s_l01Bits AllF.nil) AllX.nil)
theorem ev_s_l01Same (a : Nat) (b : Nat) : evalF E_s_l01Same noL Try.f72 [.ro false (.flt .f32), .ro false (.flt .f32)] (.one false .bool) (a, b, ()) = g_s_l01Same a b := by kernel_rfl
def m_s_l01Same : FM := { ps := [.ro false (.flt .f32), .ro false (.flt .f32)], res := .one false .bool, run := fun x => g_s_l01Same x.1 x.2.1 }
set_option maxRecDepth 4000 in
theorem ok_s_l01Same : FmOK Try.prog 72 m_s_l01Same := @FmOK.made Try.prog E_s_l01Same ek_s_l01Same 72 Try.f72 noL m_s_l01Same Try.func72 (by kernel_rfl) (Loops.none (by kernel_rfl)) fun ds out _ hr => by obtain ⟨a, b, ⟨⟩⟩ := ds; exact (ev_s_l01Same a b).trans hr

def E_s_SameNumber : Tabs := (mkE tab [(72, m_s_l01Same)] [])
set_option maxRecDepth 4000 in
theorem ek_s_SameNumber : EnvOK Try.prog E_s_SameNumber := (mkE_ok tab_ok mixed (AllF.cons ok_s_l01Same AllF.nil) AllX.nil)
theorem ev_s_SameNumber (a : Nat) (b : Nat) : evalF E_s_SameNumber noL Try.f15 [.ro false (.flt .f32), .ro false (.flt .f32)] (.one false .bool) (a, b, ()) = g_s_SameNumber a b := by kernel_rfl
def m_s_SameNumber : FM := { ps := [.ro false (.flt .f32), .ro false (.flt .f32)], res := .one false .bool, run := fun x => g_s_SameNumber x.1 x.2.1 }
set_option maxRecDepth 4000 in
theorem ok_s_SameNumber : FmOK Try.prog 15 m_s_SameNumber := @FmOK.made Try.prog E_s_SameNumber ek_s_SameNumber 15 Try.f15 noL m_s_SameNumber Try.func15 (by kernel_rfl) (Loops.none (by kernel_rfl)) fun ds out _ hr => by obtain ⟨a, b, ⟨⟩⟩ := ds; exact (ev_s_SameNumber a b).trans hr

def E_s_B10Whole : Tabs := (mkE tab [] [(67, m_s_l00From), (69, m_s_l00Src_pick)])
set_option maxRecDepth 4000 in
theorem ek_s_B10Whole : EnvOK Try.prog E_s_B10Whole := (mkE_ok tab_ok mixed AllF.nil (AllX.cons ok_s_l00From (AllX.cons ok_s_l00Src_pick AllX.nil)))
def lm_L_s_B10Whole_1 : LM := { mat := [], head := { slots := [(1, .dat false (.int .i64)), (2, .dat false (.int .i64)), (7, .cst (.ptr (.elem 0 0 0))), (8, .cst (.sl (.row 1)))], blks := [.one false tSrc, .row false (.flt .f32)] }, out := { slots := [(8, .cst (.sl (.row 1)))], blks := [.dead, .row false (.flt .f32)] }, ex := 0, rets := false, run := iter L_s_B10Whole_1 fuel }
def ll_s_B10Whole : List (Nat × LP) := [(3, .lm lm_L_s_B10Whole_1)]
theorem rd_L_s_B10Whole_1 (rec' : (Int × Int × Unit) × (dSrc × (List Nat) × Unit) → Option ((Unit) × ((List Nat) × Unit))) (n : Int) (most : Int) (s0 : dSrc) (r1 : (List Nat)) : round E_s_B10Whole (lookL ll_s_B10Whole) lm_L_s_B10Whole_1 28 (loopAt Try.f37 0) rec' ((n, most, ()), (s0, r1, ())) = L_s_B10Whole_1 rec' ((n, most, ()), (s0, r1, ())) := by kernel_rfl
theorem lo_s_B10Whole : Loops E_s_B10Whole (lookL ll_s_B10Whole) Try.f37 := Loops.list (by kernel_rfl) (by kernel_rfl) ⟨LoopOK.iter (step := L_s_B10Whole_1) (N := fun _ => fuel) (fun rec' x => by obtain ⟨⟨n, most, ⟨⟩⟩, ⟨s0, r1, ⟨⟩⟩⟩ := x; exact rd_L_s_B10Whole_1 rec' n most s0 r1) fun _ => rfl, trivial⟩
theorem ev_s_B10Whole (code : (List Int)) (n : Int) (most : Int) : evalF E_s_B10Whole (lookL ll_s_B10Whole) Try.f37 [.ro false (.slice (.int .u8)), .ro false (.int .i64), .ro false (.int .i64)] (.one false (.slice (.flt .f32))) (code, n, most, ()) = g_s_B10Whole code n most := by kernel_rfl
def m_s_B10Whole : FM := { ps := [.ro false (.slice (.int .u8)), .ro false (.int .i64), .ro false (.int .i64)], res := .one false (.slice (.flt .f32)), run := fun x => g_s_B10Whole x.1 x.2.1 x.2.2.1 }
set_option maxRecDepth 4000 in
theorem ok_s_B10Whole : FmOK Try.prog 37 m_s_B10Whole := @FmOK.made Try.prog E_s_B10Whole ek_s_B10Whole 37 Try.f37 (lookL ll_s_B10Whole) m_s_B10Whole Try.func37 (by kernel_rfl) lo_s_B10Whole fun ds out _ hr => by obtain ⟨code, n, most, ⟨⟩⟩ := ds; exact (ev_s_B10Whole code n most).trans hr

def E_i_DotWide : Tabs := (mkE tab [] [])
set_option maxRecDepth 4000 in
theorem ek_i_DotWide : EnvOK Try.prog E_i_DotWide := (mkE_ok tab_ok mixed AllF.nil AllX.nil)
def lm_L_i_DotWide_1 : LM := { mat := [], head := { slots := [(1, .dat false (.slice (.flt .f32))), (6, .dat false (.flt .f64)), (19, .dat false (.slice (.flt .f32))), (20, .dat false (.int .i64)), (21, .dat false (.int .i64))], blks := [] }, out := { slots := [(6, .dat false (.flt .f64))], blks := [] }, ex := 0, rets := false, run := iter L_i_DotWide_1 fuel }
def ll_i_DotWide : List (Nat × LP) := [(5, .lm lm_L_i_DotWide_1)]
theorem rd_L_i_DotWide_1 (rec' : ((List Nat) × Nat × (List Nat) × Int × Int × Unit) × (Unit) → Option ((Nat × Unit) × (Unit))) (b : (List Nat)) (s : Nat) (t19 : (List Nat)) (t20 : Int) (t21 : Int) : round E_i_DotWide (lookL ll_i_DotWide) lm_L_i_DotWide_1 39 (loopAt Try.f38 0) rec' ((b, s, t19, t20, t21, ()), (())) = L_i_DotWide_1 rec' ((b, s, t19, t20, t21, ()), (())) := by kernel_rfl
theorem lo_i_DotWide : Loops E_i_DotWide (lookL ll_i_DotWide) Try.f38 := Loops.list (by kernel_rfl) (by kernel_rfl) ⟨LoopOK.iter (step := L_i_DotWide_1) (N := fun _ => fuel) (fun rec' x => by obtain ⟨⟨b, s, t19, t20, t21, ⟨⟩⟩, ⟨⟨⟩⟩⟩ := x; exact rd_L_i_DotWide_1 rec' b s t19 t20 t21) fun _ => rfl, trivial⟩
theorem ev_i_DotWide (a : (List Nat)) (b : (List Nat)) : evalF E_i_DotWide (lookL ll_i_DotWide) Try.f38 [.ro false (.slice (.flt .f32)), .ro false (.slice (.flt .f32))] (.tup [(false, (.flt .f32)), (false, .bool)]) (a, b, ()) = g_i_DotWide a b := by kernel_rfl
def m_i_DotWide : FM := { ps := [.ro false (.slice (.flt .f32)), .ro false (.slice (.flt .f32))], res := .tup [(false, (.flt .f32)), (false, .bool)], run := fun x => g_i_DotWide x.1 x.2.1 }
set_option maxRecDepth 4000 in
theorem ok_i_DotWide : FmOK Try.prog 38 m_i_DotWide := @FmOK.made Try.prog E_i_DotWide ek_i_DotWide 38 Try.f38 (lookL ll_i_DotWide) m_i_DotWide Try.func38 (by kernel_rfl) lo_i_DotWide fun ds out _ hr => by obtain ⟨a, b, ⟨⟩⟩ := ds; exact (ev_i_DotWide a b).trans hr

def E_w_FnSums : Tabs := (mkE tab [(13, m_w_b10Long), (32, m_w_b10At), (33, m_s_B10Numbers), (34, m_i_SumNumbers), (35, m_i_DotNumbers), (36, m_i_SumPairs), (15, m_s_SameNumber), (37, m_s_B10Whole), (38, m_i_DotWide)] [])
set_option maxRecDepth 4000 in
theorem ek_w_FnSums : EnvOK Try.prog E_w_FnSums := (mkE_ok tab_ok mixed (AllF.cons ok_w_b10Long (AllF.cons ok_w_b10At (AllF.cons ok_s_B10Numbers (AllF.cons ok_i_SumNumbers (AllF.cons ok_i_DotNumbers (AllF.cons ok_i_SumPairs (AllF.cons ok_s_SameNumber (AllF.cons ok_s_B10Whole (AllF.cons ok_i_DotWide AllF.nil))))))))) AllX.nil)
def lm_L_w_FnSums_2 : LM := { mat := [], head := { slots := [(5, .dat false (.int .i64)), (21, .cst (.sl (.row 2))), (22, .dat false (.flt .f32)), (23, .dat false .bool), (24, .dat false (.flt .f32)), (25, .dat false .bool), (26, .dat false (.flt .f32)), (27, .dat false .bool), (28, .dat false (.flt .f32)), (29, .dat false .bool), (30, .dat false (.flt .f32)), (31, .dat false .bool), (32, .dat false (.int .i64)), (33, .dat false (.int .i64)), (34, .dat false (.int .i64))], blks := [.dead, .dead, .row false (.flt .f32), .dead] }, out := { slots := [(22, .dat false (.flt .f32)), (23, .dat false .bool), (24, .dat false (.flt .f32)), (25, .dat false .bool), (26, .dat false (.flt .f32)), (27, .dat false .bool), (28, .dat false (.flt .f32)), (29, .dat false .bool), (30, .dat false (.flt .f32)), (31, .dat false .bool), (32, .dat false (.int .i64)), (33, .dat false (.int .i64))], blks := [.dead, .dead, .dead, .dead] }, ex := 2, rets := false, run := iter L_w_FnSums_2 fuel }
def lm_L_w_FnSums_1 : LM := { mat := [], head := { slots := [(1, .dat false (.slice (.int .u8))), (5, .dat false (.int .i64)), (6, .cst (.sl (.row 0))), (7, .cst (.sl (.row 1))), (8, .dat false (.flt .f32)), (9, .dat false (.int .i64))], blks := [.row false (.flt .f32), .row false (.flt .f32)] }, out := { slots := [(1, .dat false (.slice (.int .u8))), (5, .dat false (.int .i64)), (6, .cst (.sl (.row 0))), (7, .cst (.sl (.row 1))), (8, .dat false (.flt .f32))], blks := [.row false (.flt .f32), .row false (.flt .f32)] }, ex := 0, rets := false, run := iter L_w_FnSums_1 fuel }
def ll_w_FnSums : List (Nat × LP) := [(8, .lm lm_L_w_FnSums_1), (29, .lm lm_L_w_FnSums_2)]
theorem rd_L_w_FnSums_2 (rec' : (Int × Nat × Bool × Nat × Bool × Nat × Bool × Nat × Bool × Nat × Bool × Int × Int × Int × Unit) × ((List Nat) × Unit) → Option ((Nat × Bool × Nat × Bool × Nat × Bool × Nat × Bool × Nat × Bool × Int × Int × Unit) × (Unit))) (n : Int) (c : Nat) (six : Bool) (d : Nat) (seven : Bool) (e : Nat) (eight : Bool) (f : Nat) (nine : Bool) (g : Nat) (ten : Bool) (exact : Int) (squares : Int) (i : Int) (r2 : (List Nat)) : round E_w_FnSums (lookL ll_w_FnSums) lm_L_w_FnSums_2 230 (loopAt Try.f6 1) rec' ((n, c, six, d, seven, e, eight, f, nine, g, ten, exact, squares, i, ()), (r2, ())) = L_w_FnSums_2 rec' ((n, c, six, d, seven, e, eight, f, nine, g, ten, exact, squares, i, ()), (r2, ())) := by kernel_rfl
theorem rd_L_w_FnSums_1 (rec' : ((List Int) × Int × Nat × Int × Unit) × ((List Nat) × (List Nat) × Unit) → Option (((List Int) × Int × Nat × Unit) × ((List Nat) × (List Nat) × Unit))) (more : (List Int)) (n : Int) (sum : Nat) (i : Int) (r0 : (List Nat)) (r1 : (List Nat)) : round E_w_FnSums (lookL ll_w_FnSums) lm_L_w_FnSums_1 230 (loopAt Try.f6 0) rec' ((more, n, sum, i, ()), (r0, r1, ())) = L_w_FnSums_1 rec' ((more, n, sum, i, ()), (r0, r1, ())) := by kernel_rfl
theorem lo_w_FnSums : Loops E_w_FnSums (lookL ll_w_FnSums) Try.f6 := Loops.list (by kernel_rfl) (by kernel_rfl) ⟨LoopOK.iter (step := L_w_FnSums_1) (N := fun _ => fuel) (fun rec' x => by obtain ⟨⟨more, n, sum, i, ⟨⟩⟩, ⟨r0, r1, ⟨⟩⟩⟩ := x; exact rd_L_w_FnSums_1 rec' more n sum i r0 r1) fun _ => rfl, LoopOK.iter (step := L_w_FnSums_2) (N := fun _ => fuel) (fun rec' x => by obtain ⟨⟨n, c, six, d, seven, e, eight, f, nine, g, ten, exact, squares, i, ⟨⟩⟩, ⟨r2, ⟨⟩⟩⟩ := x; exact rd_L_w_FnSums_2 rec' n c six d seven e eight f nine g ten exact squares i r2) fun _ => rfl, trivial⟩
theorem ev_w_FnSums (code : (List Int)) (more : (List Int)) : evalF E_w_FnSums (lookL ll_w_FnSums) Try.f6 [.ro false (.slice (.int .u8)), .ro false (.slice (.int .u8))] (.one false .bool) (code, more, ()) = g_w_FnSums code more := by kernel_rfl
end
end Go.Fw.F
