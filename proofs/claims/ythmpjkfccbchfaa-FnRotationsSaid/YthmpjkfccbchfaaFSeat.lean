/- The functions of the translation compute what the plain functions compute. No condition. -/
import Derived.Test.YthmpjkfccbchfaaFPure
import Derived.Test.YthmpjkfccbchfaaProg
import Derived.KernelRfl
set_option linter.unusedVariables false
namespace Go.Fw.F
open Go.Fw Go.Proofs Go.RowKit
noncomputable section
def tab : List (Nat × TI) := [
  (2, { und := .int .i64, size := 1, bytes := 8, zero := [.int .i64 0], ty := (.int .i64) }),
  (3, { und := .int .i64, size := 1, bytes := 8, zero := [.int .i64 0], ty := (.int .i64) }),
  (4, { und := .bool, size := 1, bytes := 1, zero := [.bool false], ty := .bool }),
  (5, { und := .int .u8, size := 1, bytes := 1, zero := [.int .u8 0], ty := (.int .u8) }),
  (22, { und := .slice 5, size := 1, bytes := 24, zero := [.sl .nil], ty := (.slice (.int .u8)) }),
  (24, { und := .flt .f32, size := 1, bytes := 4, zero := [.flt .f32 0], ty := (.flt .f32) }),
  (28, { und := .flt .f64, size := 1, bytes := 8, zero := [.flt .f64 0], ty := (.flt .f64) }),
  (40, { und := .struct [(0, 24), (1, 24), (2, 24)], size := 3, bytes := 12, zero := [.flt .f32 0, .flt .f32 0, .flt .f32 0], ty := tVec }),
  (43, { und := .slice 24, size := 1, bytes := 24, zero := [.sl .nil], ty := (.slice (.flt .f32)) }),
  (50, { und := .struct [(0, 24), (1, 24), (2, 24), (3, 24)], size := 4, bytes := 16, zero := [.flt .f32 0, .flt .f32 0, .flt .f32 0, .flt .f32 0], ty := tTurn }),
  (64, { und := .slice 40, size := 1, bytes := 24, zero := [.sl .nil], ty := (.slice tVec) }),
  (76, { und := .other, size := 1, bytes := 8, zero := [.pnil], ty := .unit }),
  (97, { und := .int .u64, size := 1, bytes := 8, zero := [.int .u64 0], ty := (.int .u64) }),
  (99, { und := .struct [(0, 22), (1, 3), (2, 97)], size := 3, bytes := 40, zero := [.sl .nil, .int .i64 0, .int .u64 0], ty := (.pair (.slice (.int .u8)) (.pair (.int .i64) (.pair (.int .u64) .unit))) })]
theorem tab_ok : TabOK Try.prog (lookT tab) := tabB_spec (by kernel_rfl)
theorem mixed : Try.prog.follows .mixedOrders = true := by kernel_rfl
def E_w_r8Long : Tabs := (mkE tab [] [])
set_option maxRecDepth 4000 in
theorem ek_w_r8Long : EnvOK Try.prog E_w_r8Long := (mkE_ok tab_ok mixed AllF.nil AllX.nil)
theorem ev_w_r8Long (code : (List Int)) (more : (List Int)) : evalF E_w_r8Long noL Try.f26 [.ro false (.slice (.int .u8)), .ro false (.slice (.int .u8))] (.one false .bool) (code, more, ()) = g_w_r8Long code more := by kernel_rfl
def m_w_r8Long : FM := { ps := [.ro false (.slice (.int .u8)), .ro false (.slice (.int .u8))], res := .one false .bool, run := fun x => some (t_w_r8Long x.1 x.2.1) }
set_option maxRecDepth 4000 in
theorem ok_w_r8Long : FmOK Try.prog 26 m_w_r8Long := @FmOK.made Try.prog E_w_r8Long ek_w_r8Long 26 Try.f26 noL m_w_r8Long Try.func26 (by kernel_rfl) (Loops.none (by kernel_rfl)) fun ds out _ hr => by obtain ⟨code, more, ⟨⟩⟩ := ds; exact (ev_w_r8Long code more).trans ((q_w_r8Long code more).trans hr)

def E_s_l00From : Tabs := (mkE tab [] [])
set_option maxRecDepth 4000 in
theorem ek_s_l00From : EnvOK Try.prog E_s_l00From := (mkE_ok tab_ok mixed AllF.nil AllX.nil)
theorem ev_s_l00From (code : (List Int)) : evalX E_s_l00From noL Try.f67 [.ro false (.slice (.int .u8))] (.box tSrc) (code, ()) = g_s_l00From code := by kernel_rfl
def m_s_l00From : FX := { ps := [.ro false (.slice (.int .u8))], res := .box tSrc, run := fun x => some (t_s_l00From x.1) }
set_option maxRecDepth 4000 in
theorem ok_s_l00From : FxOK Try.prog 67 m_s_l00From := @FxOK.made Try.prog E_s_l00From ek_s_l00From 67 Try.f67 noL m_s_l00From Try.func67 (by kernel_rfl) (Loops.none (by kernel_rfl)) fun ds out _ hr => by obtain ⟨code, ⟨⟩⟩ := ds; exact (ev_s_l00From code).trans ((q_s_l00From code).trans hr)

def E_s_l00Src_next : Tabs := (mkE tab [] [])
set_option maxRecDepth 4000 in
theorem ek_s_l00Src_next : EnvOK Try.prog E_s_l00Src_next := (mkE_ok tab_ok mixed AllF.nil AllX.nil)
theorem ev_s_l00Src_next (s : dSrc) : evalX E_s_l00Src_next noL Try.f109 [.optr tSrc] (.one false (.int .i64)) (s, ()) = g_s_l00Src_next s := by kernel_rfl
def m_s_l00Src_next : FX := { ps := [.optr tSrc], res := .one false (.int .i64), run := fun x => g_s_l00Src_next x.1 }
set_option maxRecDepth 4000 in
theorem ok_s_l00Src_next : FxOK Try.prog 109 m_s_l00Src_next := @FxOK.made Try.prog E_s_l00Src_next ek_s_l00Src_next 109 Try.f109 noL m_s_l00Src_next Try.func109 (by kernel_rfl) (Loops.none (by kernel_rfl)) fun ds out _ hr => by obtain ⟨s, ⟨⟩⟩ := ds; exact (ev_s_l00Src_next s).trans hr

def E_s_l00Src_pick : Tabs := (mkE tab [] [(109, m_s_l00Src_next)])
set_option maxRecDepth 4000 in
theorem ek_s_l00Src_pick : EnvOK Try.prog E_s_l00Src_pick := (mkE_ok tab_ok mixed AllF.nil (AllX.cons ok_s_l00Src_next AllX.nil))
theorem ev_s_l00Src_pick (s : dSrc) (n : Int) : evalX E_s_l00Src_pick noL Try.f69 [.optr tSrc, .ro false (.int .i64)] (.one false (.int .i64)) (s, n, ()) = g_s_l00Src_pick s n := by kernel_rfl
def m_s_l00Src_pick : FX := { ps := [.optr tSrc, .ro false (.int .i64)], res := .one false (.int .i64), run := fun x => g_s_l00Src_pick x.1 x.2.1 }
set_option maxRecDepth 4000 in
theorem ok_s_l00Src_pick : FxOK Try.prog 69 m_s_l00Src_pick := @FxOK.made Try.prog E_s_l00Src_pick ek_s_l00Src_pick 69 Try.f69 noL m_s_l00Src_pick Try.func69 (by kernel_rfl) (Loops.none (by kernel_rfl)) fun ds out _ hr => by obtain ⟨s, n, ⟨⟩⟩ := ds; exact (ev_s_l00Src_pick s n).trans hr

def E_s_l00Src_one : Tabs := (mkE tab [] [(69, m_s_l00Src_pick)])
set_option maxRecDepth 4000 in
theorem ek_s_l00Src_one : EnvOK Try.prog E_s_l00Src_one := (mkE_ok tab_ok mixed AllF.nil (AllX.cons ok_s_l00Src_pick AllX.nil))
theorem ev_s_l00Src_one (s : dSrc) (n : Int) : evalX E_s_l00Src_one noL Try.f68 [.optr tSrc, .ro false (.int .i64)] (.one false .bool) (s, n, ()) = g_s_l00Src_one s n := by kernel_rfl
def m_s_l00Src_one : FX := { ps := [.optr tSrc, .ro false (.int .i64)], res := .one false .bool, run := fun x => g_s_l00Src_one x.1 x.2.1 }
set_option maxRecDepth 4000 in
theorem ok_s_l00Src_one : FxOK Try.prog 68 m_s_l00Src_one := @FxOK.made Try.prog E_s_l00Src_one ek_s_l00Src_one 68 Try.f68 noL m_s_l00Src_one Try.func68 (by kernel_rfl) (Loops.none (by kernel_rfl)) fun ds out _ hr => by obtain ⟨s, n, ⟨⟩⟩ := ds; exact (ev_s_l00Src_one s n).trans hr

def E_s_l02DrawExact : Tabs := (mkE tab [] [(69, m_s_l00Src_pick)])
set_option maxRecDepth 4000 in
theorem ek_s_l02DrawExact : EnvOK Try.prog E_s_l02DrawExact := (mkE_ok tab_ok mixed AllF.nil (AllX.cons ok_s_l00Src_pick AllX.nil))
theorem ev_s_l02DrawExact (s : dSrc) : evalX E_s_l02DrawExact noL Try.f92 [.optr tSrc] (.one true tTurn) (s, ()) = g_s_l02DrawExact s := by kernel_rfl
def m_s_l02DrawExact : FX := { ps := [.optr tSrc], res := .one true tTurn, run := fun x => g_s_l02DrawExact x.1 }
set_option maxRecDepth 4000 in
theorem ok_s_l02DrawExact : FxOK Try.prog 92 m_s_l02DrawExact := @FxOK.made Try.prog E_s_l02DrawExact ek_s_l02DrawExact 92 Try.f92 noL m_s_l02DrawExact Try.func92 (by kernel_rfl) (Loops.none (by kernel_rfl)) fun ds out _ hr => by obtain ⟨s, ⟨⟩⟩ := ds; exact (ev_s_l02DrawExact s).trans hr

def E_s_l01DrawSmall : Tabs := (mkE tab [] [(69, m_s_l00Src_pick)])
set_option maxRecDepth 4000 in
theorem ek_s_l01DrawSmall : EnvOK Try.prog E_s_l01DrawSmall := (mkE_ok tab_ok mixed AllF.nil (AllX.cons ok_s_l00Src_pick AllX.nil))
theorem ev_s_l01DrawSmall (s : dSrc) : evalX E_s_l01DrawSmall noL Try.f84 [.optr tSrc] (.one false (.flt .f32)) (s, ()) = g_s_l01DrawSmall s := by kernel_rfl
def m_s_l01DrawSmall : FX := { ps := [.optr tSrc], res := .one false (.flt .f32), run := fun x => g_s_l01DrawSmall x.1 }
set_option maxRecDepth 4000 in
theorem ok_s_l01DrawSmall : FxOK Try.prog 84 m_s_l01DrawSmall := @FxOK.made Try.prog E_s_l01DrawSmall ek_s_l01DrawSmall 84 Try.f84 noL m_s_l01DrawSmall Try.func84 (by kernel_rfl) (Loops.none (by kernel_rfl)) fun ds out _ hr => by obtain ⟨s, ⟨⟩⟩ := ds; exact (ev_s_l01DrawSmall s).trans hr

def E_s_l02Inner : Tabs := (mkE tab [] [])
set_option maxRecDepth 4000 in
theorem ek_s_l02Inner : EnvOK Try.prog E_s_l02Inner := (mkE_ok tab_ok mixed AllF.nil AllX.nil)
theorem ev_s_l02Inner (a : dTurn) (b : dTurn) : evalF E_s_l02Inner noL Try.f118 [.ro true tTurn, .ro true tTurn] (.one false (.flt .f32)) (a, b, ()) = g_s_l02Inner a b := by kernel_rfl
def m_s_l02Inner : FM := { ps := [.ro true tTurn, .ro true tTurn], res := .one false (.flt .f32), run := fun x => some (t_s_l02Inner x.1 x.2.1) }
set_option maxRecDepth 4000 in
theorem ok_s_l02Inner : FmOK Try.prog 118 m_s_l02Inner := @FmOK.made Try.prog E_s_l02Inner ek_s_l02Inner 118 Try.f118 noL m_s_l02Inner Try.func118 (by kernel_rfl) (Loops.none (by kernel_rfl)) fun ds out _ hr => by obtain ⟨a, b, ⟨⟩⟩ := ds; exact (ev_s_l02Inner a b).trans ((q_s_l02Inner a b).trans hr)

set_option maxRecDepth 4000 in
theorem ok_mathsqrt : FmOK Try.prog 117 m_mathsqrt := FmOK.sqrt Try.func117 (by kernel_rfl) rfl (by kernel_rfl) (by kernel_rfl)

def E_math_Sqrt : Tabs := (mkE tab [(117, m_mathsqrt)] [])
set_option maxRecDepth 4000 in
theorem ek_math_Sqrt : EnvOK Try.prog E_math_Sqrt := (mkE_ok tab_ok mixed (AllF.cons ok_mathsqrt AllF.nil) AllX.nil)
theorem ev_math_Sqrt (xx : Nat) : evalF E_math_Sqrt noL Try.f114 [.ro false (.flt .f64)] (.one false (.flt .f64)) (xx, ()) = g_math_Sqrt xx := by kernel_rfl
def m_math_Sqrt : FM := { ps := [.ro false (.flt .f64)], res := .one false (.flt .f64), run := fun x => some (t_math_Sqrt x.1) }
set_option maxRecDepth 4000 in
theorem ok_math_Sqrt : FmOK Try.prog 114 m_math_Sqrt := @FmOK.made Try.prog E_math_Sqrt ek_math_Sqrt 114 Try.f114 noL m_math_Sqrt Try.func114 (by kernel_rfl) (Loops.none (by kernel_rfl)) fun ds out _ hr => by obtain ⟨xx, ⟨⟩⟩ := ds; exact (ev_math_Sqrt xx).trans ((q_math_Sqrt xx).trans hr)

def E_s_l01Narrow : Tabs := (mkE tab [] [])
set_option maxRecDepth 4000 in
theorem ek_s_l01Narrow : EnvOK Try.prog E_s_l01Narrow := (mkE_ok tab_ok mixed AllF.nil AllX.nil)
theorem ev_s_l01Narrow (xx : Nat) : evalF E_s_l01Narrow noL Try.f116 [.ro false (.flt .f64)] (.one false (.flt .f32)) (xx, ()) = g_s_l01Narrow xx := by kernel_rfl
def m_s_l01Narrow : FM := { ps := [.ro false (.flt .f64)], res := .one false (.flt .f32), run := fun x => g_s_l01Narrow x.1 }
set_option maxRecDepth 4000 in
theorem ok_s_l01Narrow : FmOK Try.prog 116 m_s_l01Narrow := @FmOK.made Try.prog E_s_l01Narrow ek_s_l01Narrow 116 Try.f116 noL m_s_l01Narrow Try.func116 (by kernel_rfl) (Loops.none (by kernel_rfl)) fun ds out _ hr => by obtain ⟨xx, ⟨⟩⟩ := ds; exact (ev_s_l01Narrow xx).trans hr

def E_s_l01Sqrt : Tabs := (mkE tab [(114, m_math_Sqrt), (116, m_s_l01Narrow)] [])
set_option maxRecDepth 4000 in
theorem ek_s_l01Sqrt : EnvOK Try.prog E_s_l01Sqrt := (mkE_ok tab_ok mixed (AllF.cons ok_math_Sqrt (AllF.cons ok_s_l01Narrow AllF.nil)) AllX.nil)
theorem ev_s_l01Sqrt (xx : Nat) : evalF E_s_l01Sqrt noL Try.f103 [.ro false (.flt .f32)] (.one false (.flt .f32)) (xx, ()) = g_s_l01Sqrt xx := by kernel_rfl
def m_s_l01Sqrt : FM := { ps := [.ro false (.flt .f32)], res := .one false (.flt .f32), run := fun x => g_s_l01Sqrt x.1 }
set_option maxRecDepth 4000 in
theorem ok_s_l01Sqrt : FmOK Try.prog 103 m_s_l01Sqrt := @FmOK.made Try.prog E_s_l01Sqrt ek_s_l01Sqrt 103 Try.f103 noL m_s_l01Sqrt Try.func103 (by kernel_rfl) (Loops.none (by kernel_rfl)) fun ds out _ hr => by obtain ⟨xx, ⟨⟩⟩ := ds; exact (ev_s_l01Sqrt xx).trans hr

def E_s_l02No : Tabs := (mkE tab [] [])
set_option maxRecDepth 4000 in
theorem ek_s_l02No : EnvOK Try.prog E_s_l02No := (mkE_ok tab_ok mixed AllF.nil AllX.nil)
theorem ev_s_l02No  : evalF E_s_l02No noL Try.f119 [] (.one true tTurn) (()) = g_s_l02No  := by kernel_rfl
def m_s_l02No : FM := { ps := [], res := .one true tTurn, run := fun x => some (t_s_l02No ) }
set_option maxRecDepth 4000 in
theorem ok_s_l02No : FmOK Try.prog 119 m_s_l02No := @FmOK.made Try.prog E_s_l02No ek_s_l02No 119 Try.f119 noL m_s_l02No Try.func119 (by kernel_rfl) (Loops.none (by kernel_rfl)) fun ds out _ hr => by obtain ⟨⟨⟩⟩ := ds; exact (ev_s_l02No ).trans ((q_s_l02No ).trans hr)

def E_s_l01Finite : Tabs := (mkE tab [] [])
set_option maxRecDepth 4000 in
theorem ek_s_l01Finite : EnvOK Try.prog E_s_l01Finite := (mkE_ok tab_ok mixed AllF.nil AllX.nil)
theorem ev_s_l01Finite (xx : Nat) : evalF E_s_l01Finite noL Try.f74 [.ro false (.flt .f32)] (.one false .bool) (xx, ()) = g_s_l01Finite xx := by kernel_rfl
def m_s_l01Finite : FM := { ps := [.ro false (.flt .f32)], res := .one false .bool, run := fun x => some (t_s_l01Finite x.1) }
set_option maxRecDepth 4000 in
theorem ok_s_l01Finite : FmOK Try.prog 74 m_s_l01Finite := @FmOK.made Try.prog E_s_l01Finite ek_s_l01Finite 74 Try.f74 noL m_s_l01Finite Try.func74 (by kernel_rfl) (Loops.none (by kernel_rfl)) fun ds out _ hr => by obtain ⟨xx, ⟨⟩⟩ := ds; exact (ev_s_l01Finite xx).trans ((q_s_l01Finite xx).trans hr)

def E_s_l02Mend : Tabs := (mkE tab [(118, m_s_l02Inner), (103, m_s_l01Sqrt), (119, m_s_l02No), (74, m_s_l01Finite)] [])
set_option maxRecDepth 4000 in
theorem ek_s_l02Mend : EnvOK Try.prog E_s_l02Mend := (mkE_ok tab_ok mixed (AllF.cons ok_s_l02Inner (AllF.cons ok_s_l01Sqrt (AllF.cons ok_s_l02No (AllF.cons ok_s_l01Finite AllF.nil)))) AllX.nil)
theorem ev_s_l02Mend (t : dTurn) : evalF E_s_l02Mend noL Try.f115 [.ro true tTurn] (.one true tTurn) (t, ()) = g_s_l02Mend t := by kernel_rfl
def m_s_l02Mend : FM := { ps := [.ro true tTurn], res := .one true tTurn, run := fun x => g_s_l02Mend x.1 }
set_option maxRecDepth 4000 in
theorem ok_s_l02Mend : FmOK Try.prog 115 m_s_l02Mend := @FmOK.made Try.prog E_s_l02Mend ek_s_l02Mend 115 Try.f115 noL m_s_l02Mend Try.func115 (by kernel_rfl) (Loops.none (by kernel_rfl)) fun ds out _ hr => by obtain ⟨t, ⟨⟩⟩ := ds; exact (ev_s_l02Mend t).trans hr

def E_s_l02DrawTurn : Tabs := (mkE tab [(115, m_s_l02Mend)] [(68, m_s_l00Src_one), (92, m_s_l02DrawExact), (84, m_s_l01DrawSmall)])
set_option maxRecDepth 4000 in
theorem ek_s_l02DrawTurn : EnvOK Try.prog E_s_l02DrawTurn := (mkE_ok tab_ok mixed (AllF.cons ok_s_l02Mend AllF.nil) (AllX.cons ok_s_l00Src_one (AllX.cons ok_s_l02DrawExact (AllX.cons ok_s_l01DrawSmall AllX.nil))))
theorem ev_s_l02DrawTurn (s : dSrc) : evalX E_s_l02DrawTurn noL Try.f94 [.optr tSrc] (.one true tTurn) (s, ()) = g_s_l02DrawTurn s := by kernel_rfl
def m_s_l02DrawTurn : FX := { ps := [.optr tSrc], res := .one true tTurn, run := fun x => g_s_l02DrawTurn x.1 }
set_option maxRecDepth 4000 in
theorem ok_s_l02DrawTurn : FxOK Try.prog 94 m_s_l02DrawTurn := @FxOK.made Try.prog E_s_l02DrawTurn ek_s_l02DrawTurn 94 Try.f94 noL m_s_l02DrawTurn Try.func94 (by kernel_rfl) (Loops.none (by kernel_rfl)) fun ds out _ hr => by obtain ⟨s, ⟨⟩⟩ := ds; exact (ev_s_l02DrawTurn s).trans hr

def E_s_R8Turn : Tabs := (mkE tab [] [(67, m_s_l00From), (94, m_s_l02DrawTurn)])
set_option maxRecDepth 4000 in
theorem ek_s_R8Turn : EnvOK Try.prog E_s_R8Turn := (mkE_ok tab_ok mixed AllF.nil (AllX.cons ok_s_l00From (AllX.cons ok_s_l02DrawTurn AllX.nil)))
theorem ev_s_R8Turn (code : (List Int)) : evalF E_s_R8Turn noL Try.f52 [.ro false (.slice (.int .u8))] (.one true tTurn) (code, ()) = g_s_R8Turn code := by kernel_rfl
def m_s_R8Turn : FM := { ps := [.ro false (.slice (.int .u8))], res := .one true tTurn, run := fun x => g_s_R8Turn x.1 }
set_option maxRecDepth 4000 in
theorem ok_s_R8Turn : FmOK Try.prog 52 m_s_R8Turn := @FmOK.made Try.prog E_s_R8Turn ek_s_R8Turn 52 Try.f52 noL m_s_R8Turn Try.func52 (by kernel_rfl) (Loops.none (by kernel_rfl)) fun ds out _ hr => by obtain ⟨code, ⟨⟩⟩ := ds; exact (ev_s_R8Turn code).trans hr

def E_s_R8Small : Tabs := (mkE tab [] [(67, m_s_l00From), (84, m_s_l01DrawSmall)])
set_option maxRecDepth 4000 in
theorem ek_s_R8Small : EnvOK Try.prog E_s_R8Small := (mkE_ok tab_ok mixed AllF.nil (AllX.cons ok_s_l00From (AllX.cons ok_s_l01DrawSmall AllX.nil)))
theorem ev_s_R8Small (code : (List Int)) : evalF E_s_R8Small noL Try.f30 [.ro false (.slice (.int .u8))] (.one true tVec) (code, ()) = g_s_R8Small code := by kernel_rfl
def m_s_R8Small : FM := { ps := [.ro false (.slice (.int .u8))], res := .one true tVec, run := fun x => g_s_R8Small x.1 }
set_option maxRecDepth 4000 in
theorem ok_s_R8Small : FmOK Try.prog 30 m_s_R8Small := @FmOK.made Try.prog E_s_R8Small ek_s_R8Small 30 Try.f30 noL m_s_R8Small Try.func30 (by kernel_rfl) (Loops.none (by kernel_rfl)) fun ds out _ hr => by obtain ⟨code, ⟨⟩⟩ := ds; exact (ev_s_R8Small code).trans hr

def E_i_Turn_vector : Tabs := (mkE tab [] [])
set_option maxRecDepth 4000 in
theorem ek_i_Turn_vector : EnvOK Try.prog E_i_Turn_vector := (mkE_ok tab_ok mixed AllF.nil AllX.nil)
theorem ev_i_Turn_vector (t : dTurn) : evalF E_i_Turn_vector noL Try.f90 [.ro true tTurn] (.one true tVec) (t, ()) = g_i_Turn_vector t := by kernel_rfl
def m_i_Turn_vector : FM := { ps := [.ro true tTurn], res := .one true tVec, run := fun x => some (t_i_Turn_vector x.1) }
set_option maxRecDepth 4000 in
theorem ok_i_Turn_vector : FmOK Try.prog 90 m_i_Turn_vector := @FmOK.made Try.prog E_i_Turn_vector ek_i_Turn_vector 90 Try.f90 noL m_i_Turn_vector Try.func90 (by kernel_rfl) (Loops.none (by kernel_rfl)) fun ds out _ hr => by obtain ⟨t, ⟨⟩⟩ := ds; exact (ev_i_Turn_vector t).trans ((q_i_Turn_vector t).trans hr)

def E_i_CrossOf : Tabs := (mkE tab [] [])
set_option maxRecDepth 4000 in
theorem ek_i_CrossOf : EnvOK Try.prog E_i_CrossOf := (mkE_ok tab_ok mixed AllF.nil AllX.nil)
theorem ev_i_CrossOf (a : dVec) (b : dVec) : evalF E_i_CrossOf noL Try.f55 [.ro true tVec, .ro true tVec] (.one true tVec) (a, b, ()) = g_i_CrossOf a b := by kernel_rfl
def m_i_CrossOf : FM := { ps := [.ro true tVec, .ro true tVec], res := .one true tVec, run := fun x => some (t_i_CrossOf x.1 x.2.1) }
set_option maxRecDepth 4000 in
theorem ok_i_CrossOf : FmOK Try.prog 55 m_i_CrossOf := @FmOK.made Try.prog E_i_CrossOf ek_i_CrossOf 55 Try.f55 noL m_i_CrossOf Try.func55 (by kernel_rfl) (Loops.none (by kernel_rfl)) fun ds out _ hr => by obtain ⟨a, b, ⟨⟩⟩ := ds; exact (ev_i_CrossOf a b).trans ((q_i_CrossOf a b).trans hr)

def E_i_ScaleVector : Tabs := (mkE tab [] [])
set_option maxRecDepth 4000 in
theorem ek_i_ScaleVector : EnvOK Try.prog E_i_ScaleVector := (mkE_ok tab_ok mixed AllF.nil AllX.nil)
theorem ev_i_ScaleVector (v : dVec) (byx : Nat) : evalF E_i_ScaleVector noL Try.f43 [.ro true tVec, .ro false (.flt .f32)] (.one true tVec) (v, byx, ()) = g_i_ScaleVector v byx := by kernel_rfl
def m_i_ScaleVector : FM := { ps := [.ro true tVec, .ro false (.flt .f32)], res := .one true tVec, run := fun x => some (t_i_ScaleVector x.1 x.2.1) }
set_option maxRecDepth 4000 in
theorem ok_i_ScaleVector : FmOK Try.prog 43 m_i_ScaleVector := @FmOK.made Try.prog E_i_ScaleVector ek_i_ScaleVector 43 Try.f43 noL m_i_ScaleVector Try.func43 (by kernel_rfl) (Loops.none (by kernel_rfl)) fun ds out _ hr => by obtain ⟨v, byx, ⟨⟩⟩ := ds; exact (ev_i_ScaleVector v byx).trans ((q_i_ScaleVector v byx).trans hr)

def E_i_AddVectors : Tabs := (mkE tab [] [])
set_option maxRecDepth 4000 in
theorem ek_i_AddVectors : EnvOK Try.prog E_i_AddVectors := (mkE_ok tab_ok mixed AllF.nil AllX.nil)
theorem ev_i_AddVectors (a : dVec) (b : dVec) : evalF E_i_AddVectors noL Try.f91 [.ro true tVec, .ro true tVec] (.one true tVec) (a, b, ()) = g_i_AddVectors a b := by kernel_rfl
def m_i_AddVectors : FM := { ps := [.ro true tVec, .ro true tVec], res := .one true tVec, run := fun x => some (t_i_AddVectors x.1 x.2.1) }
set_option maxRecDepth 4000 in
theorem ok_i_AddVectors : FmOK Try.prog 91 m_i_AddVectors := @FmOK.made Try.prog E_i_AddVectors ek_i_AddVectors 91 Try.f91 noL m_i_AddVectors Try.func91 (by kernel_rfl) (Loops.none (by kernel_rfl)) fun ds out _ hr => by obtain ⟨a, b, ⟨⟩⟩ := ds; exact (ev_i_AddVectors a b).trans ((q_i_AddVectors a b).trans hr)

def E_i_RotateBy : Tabs := (mkE tab [(90, m_i_Turn_vector), (55, m_i_CrossOf), (43, m_i_ScaleVector), (91, m_i_AddVectors)] [])
set_option maxRecDepth 4000 in
theorem ek_i_RotateBy : EnvOK Try.prog E_i_RotateBy := (mkE_ok tab_ok mixed (AllF.cons ok_i_Turn_vector (AllF.cons ok_i_CrossOf (AllF.cons ok_i_ScaleVector (AllF.cons ok_i_AddVectors AllF.nil)))) AllX.nil)
theorem ev_i_RotateBy (t : dTurn) (v : dVec) : evalF E_i_RotateBy noL Try.f44 [.ro true tTurn, .ro true tVec] (.one true tVec) (t, v, ()) = g_i_RotateBy t v := by kernel_rfl
def m_i_RotateBy : FM := { ps := [.ro true tTurn, .ro true tVec], res := .one true tVec, run := fun x => some (t_i_RotateBy x.1 x.2.1) }
set_option maxRecDepth 4000 in
theorem ok_i_RotateBy : FmOK Try.prog 44 m_i_RotateBy := @FmOK.made Try.prog E_i_RotateBy ek_i_RotateBy 44 Try.f44 noL m_i_RotateBy Try.func44 (by kernel_rfl) (Loops.none (by kernel_rfl)) fun ds out _ hr => by obtain ⟨t, v, ⟨⟩⟩ := ds; exact (ev_i_RotateBy t v).trans ((q_i_RotateBy t v).trans hr)

def E_i_InverseOf : Tabs := (mkE tab [] [])
set_option maxRecDepth 4000 in
theorem ek_i_InverseOf : EnvOK Try.prog E_i_InverseOf := (mkE_ok tab_ok mixed AllF.nil AllX.nil)
theorem ev_i_InverseOf (t : dTurn) : evalF E_i_InverseOf noL Try.f42 [.ro true tTurn] (.one true tTurn) (t, ()) = g_i_InverseOf t := by kernel_rfl
def m_i_InverseOf : FM := { ps := [.ro true tTurn], res := .one true tTurn, run := fun x => some (t_i_InverseOf x.1) }
set_option maxRecDepth 4000 in
theorem ok_i_InverseOf : FmOK Try.prog 42 m_i_InverseOf := @FmOK.made Try.prog E_i_InverseOf ek_i_InverseOf 42 Try.f42 noL m_i_InverseOf Try.func42 (by kernel_rfl) (Loops.none (by kernel_rfl)) fun ds out _ hr => by obtain ⟨t, ⟨⟩⟩ := ds; exact (ev_i_InverseOf t).trans ((q_i_InverseOf t).trans hr)

def E_i_MatrixOf : Tabs := (mkE tab [(44, m_i_RotateBy)] [])
set_option maxRecDepth 4000 in
theorem ek_i_MatrixOf : EnvOK Try.prog E_i_MatrixOf := (mkE_ok tab_ok mixed (AllF.cons ok_i_RotateBy AllF.nil) AllX.nil)
def lm_L_i_MatrixOf_1 : LM := { mat := [.slot 3 (.flt .f32)], head := { slots := [(1, .cst (.ptr (.box 0 0))), (3, .cst (.sl (.row 2))), (10, .cst (.sl (.row 1))), (11, .dat false (.int .i64)), (12, .dat false (.int .i64))], blks := [.box [.dat tTurn], .row false tVec, .row false (.flt .f32)] }, out := { slots := [(3, .cst (.sl (.row 2)))], blks := [.dead, .dead, .row false (.flt .f32)] }, ex := 0, rets := false, run := iter L_i_MatrixOf_1 fuel }
def ll_i_MatrixOf : List (Nat × LP) := [(3, .lm lm_L_i_MatrixOf_1)]
theorem rd_L_i_MatrixOf_1 (rec' : (Int × Int × Unit) × ((dTurn × Unit) × (List dVec) × (List Nat) × Unit) → Option ((Unit) × ((List Nat) × Unit))) (t11 : Int) (t12 : Int) (b0 : dTurn) (r1 : (List dVec)) (r2 : (List Nat)) : round E_i_MatrixOf (lookL ll_i_MatrixOf) lm_L_i_MatrixOf_1 30 (loopAt Try.f53 0) rec' ((t11, t12, ()), ((b0, ()), r1, r2, ())) = L_i_MatrixOf_1 rec' ((t11, t12, ()), ((b0, ()), r1, r2, ())) := by kernel_rfl
theorem lo_i_MatrixOf : Loops E_i_MatrixOf (lookL ll_i_MatrixOf) Try.f53 := Loops.list (by kernel_rfl) (by kernel_rfl) ⟨LoopOK.iter (step := L_i_MatrixOf_1) (N := fun _ => fuel) (fun rec' x => by obtain ⟨⟨t11, t12, ⟨⟩⟩, ⟨⟨b0, ⟨⟩⟩, r1, r2, ⟨⟩⟩⟩ := x; exact rd_L_i_MatrixOf_1 rec' t11 t12 b0 r1 r2) fun _ => rfl, trivial⟩
theorem ev_i_MatrixOf (t : dTurn) : evalF E_i_MatrixOf (lookL ll_i_MatrixOf) Try.f53 [.ro true tTurn] (.one false (.slice (.flt .f32))) (t, ()) = g_i_MatrixOf t := by kernel_rfl
def m_i_MatrixOf : FM := { ps := [.ro true tTurn], res := .one false (.slice (.flt .f32)), run := fun x => g_i_MatrixOf x.1 }
set_option maxRecDepth 4000 in
theorem ok_i_MatrixOf : FmOK Try.prog 53 m_i_MatrixOf := @FmOK.made Try.prog E_i_MatrixOf ek_i_MatrixOf 53 Try.f53 (lookL ll_i_MatrixOf) m_i_MatrixOf Try.func53 (by kernel_rfl) lo_i_MatrixOf fun ds out _ hr => by obtain ⟨t, ⟨⟩⟩ := ds; exact (ev_i_MatrixOf t).trans hr

def E_i_InnerOf : Tabs := (mkE tab [] [])
set_option maxRecDepth 4000 in
theorem ek_i_InnerOf : EnvOK Try.prog E_i_InnerOf := (mkE_ok tab_ok mixed AllF.nil AllX.nil)
theorem ev_i_InnerOf (a : dVec) (b : dVec) : evalF E_i_InnerOf noL Try.f64 [.ro true tVec, .ro true tVec] (.one false (.flt .f32)) (a, b, ()) = g_i_InnerOf a b := by kernel_rfl
def m_i_InnerOf : FM := { ps := [.ro true tVec, .ro true tVec], res := .one false (.flt .f32), run := fun x => some (t_i_InnerOf x.1 x.2.1) }
set_option maxRecDepth 4000 in
theorem ok_i_InnerOf : FmOK Try.prog 64 m_i_InnerOf := @FmOK.made Try.prog E_i_InnerOf ek_i_InnerOf 64 Try.f64 noL m_i_InnerOf Try.func64 (by kernel_rfl) (Loops.none (by kernel_rfl)) fun ds out _ hr => by obtain ⟨a, b, ⟨⟩⟩ := ds; exact (ev_i_InnerOf a b).trans ((q_i_InnerOf a b).trans hr)

def E_i_RootNumber : Tabs := (mkE tab [(114, m_math_Sqrt)] [])
set_option maxRecDepth 4000 in
theorem ek_i_RootNumber : EnvOK Try.prog E_i_RootNumber := (mkE_ok tab_ok mixed (AllF.cons ok_math_Sqrt AllF.nil) AllX.nil)
theorem ev_i_RootNumber (xx : Nat) : evalF E_i_RootNumber noL Try.f88 [.ro false (.flt .f32)] (.one false (.flt .f32)) (xx, ()) = g_i_RootNumber xx := by kernel_rfl
def m_i_RootNumber : FM := { ps := [.ro false (.flt .f32)], res := .one false (.flt .f32), run := fun x => g_i_RootNumber x.1 }
set_option maxRecDepth 4000 in
theorem ok_i_RootNumber : FmOK Try.prog 88 m_i_RootNumber := @FmOK.made Try.prog E_i_RootNumber ek_i_RootNumber 88 Try.f88 noL m_i_RootNumber Try.func88 (by kernel_rfl) (Loops.none (by kernel_rfl)) fun ds out _ hr => by obtain ⟨xx, ⟨⟩⟩ := ds; exact (ev_i_RootNumber xx).trans hr

def E_i_LongOf : Tabs := (mkE tab [(64, m_i_InnerOf), (88, m_i_RootNumber)] [])
set_option maxRecDepth 4000 in
theorem ek_i_LongOf : EnvOK Try.prog E_i_LongOf := (mkE_ok tab_ok mixed (AllF.cons ok_i_InnerOf (AllF.cons ok_i_RootNumber AllF.nil)) AllX.nil)
theorem ev_i_LongOf (v : dVec) : evalF E_i_LongOf noL Try.f39 [.ro true tVec] (.one false (.flt .f32)) (v, ()) = g_i_LongOf v := by kernel_rfl
def m_i_LongOf : FM := { ps := [.ro true tVec], res := .one false (.flt .f32), run := fun x => g_i_LongOf x.1 }
set_option maxRecDepth 4000 in
theorem ok_i_LongOf : FmOK Try.prog 39 m_i_LongOf := @FmOK.made Try.prog E_i_LongOf ek_i_LongOf 39 Try.f39 noL m_i_LongOf Try.func39 (by kernel_rfl) (Loops.none (by kernel_rfl)) fun ds out _ hr => by obtain ⟨v, ⟨⟩⟩ := ds; exact (ev_i_LongOf v).trans hr

def E_w_r8Gap : Tabs := (mkE tab [] [])
set_option maxRecDepth 4000 in
theorem ek_w_r8Gap : EnvOK Try.prog E_w_r8Gap := (mkE_ok tab_ok mixed AllF.nil AllX.nil)
theorem ev_w_r8Gap (a : Nat) (b : Nat) : evalF E_w_r8Gap noL Try.f31 [.ro false (.flt .f64), .ro false (.flt .f64)] (.one false (.flt .f64)) (a, b, ()) = g_w_r8Gap a b := by kernel_rfl
def m_w_r8Gap : FM := { ps := [.ro false (.flt .f64), .ro false (.flt .f64)], res := .one false (.flt .f64), run := fun x => some (t_w_r8Gap x.1 x.2.1) }
set_option maxRecDepth 4000 in
theorem ok_w_r8Gap : FmOK Try.prog 31 m_w_r8Gap := @FmOK.made Try.prog E_w_r8Gap ek_w_r8Gap 31 Try.f31 noL m_w_r8Gap Try.func31 (by kernel_rfl) (Loops.none (by kernel_rfl)) fun ds out _ hr => by obtain ⟨a, b, ⟨⟩⟩ := ds; exact (ev_w_r8Gap a b).trans ((q_w_r8Gap a b).trans hr)

def E_i_LessVectors : Tabs := (mkE tab [] [])
set_option maxRecDepth 4000 in
theorem ek_i_LessVectors : EnvOK Try.prog E_i_LessVectors := (mkE_ok tab_ok mixed AllF.nil AllX.nil)
theorem ev_i_LessVectors (a : dVec) (b : dVec) : evalF E_i_LessVectors noL Try.f45 [.ro true tVec, .ro true tVec] (.one true tVec) (a, b, ()) = g_i_LessVectors a b := by kernel_rfl
def m_i_LessVectors : FM := { ps := [.ro true tVec, .ro true tVec], res := .one true tVec, run := fun x => some (t_i_LessVectors x.1 x.2.1) }
set_option maxRecDepth 4000 in
theorem ok_i_LessVectors : FmOK Try.prog 45 m_i_LessVectors := @FmOK.made Try.prog E_i_LessVectors ek_i_LessVectors 45 Try.f45 noL m_i_LessVectors Try.func45 (by kernel_rfl) (Loops.none (by kernel_rfl)) fun ds out _ hr => by obtain ⟨a, b, ⟨⟩⟩ := ds; exact (ev_i_LessVectors a b).trans ((q_i_LessVectors a b).trans hr)

set_option maxRecDepth 4000 in
theorem ok_float64bits : FmOK Try.prog 112 m_float64bits := FmOK.bits (e := Extern.MathFloatBits.float64bits) Try.func112 (by kernel_rfl) rfl (by kernel_rfl) (by kernel_rfl) (fun _ _ => rfl) (by decide) (by decide)

def E_math_Signbit : Tabs := (mkE tab [(112, m_float64bits)] [])
set_option maxRecDepth 4000 in
theorem ek_math_Signbit : EnvOK Try.prog E_math_Signbit := (mkE_ok tab_ok mixed (AllF.cons ok_float64bits AllF.nil) AllX.nil)
theorem ev_math_Signbit (xx : Nat) : evalF E_math_Signbit noL Try.f78 [.ro false (.flt .f64)] (.one false .bool) (xx, ()) = g_math_Signbit xx := by kernel_rfl
def m_math_Signbit : FM := { ps := [.ro false (.flt .f64)], res := .one false .bool, run := fun x => g_math_Signbit x.1 }
set_option maxRecDepth 4000 in
theorem ok_math_Signbit : FmOK Try.prog 78 m_math_Signbit := @FmOK.made Try.prog E_math_Signbit ek_math_Signbit 78 Try.f78 noL m_math_Signbit Try.func78 (by kernel_rfl) (Loops.none (by kernel_rfl)) fun ds out _ hr => by obtain ⟨xx, ⟨⟩⟩ := ds; exact (ev_math_Signbit xx).trans hr

def E_i_SameNumber : Tabs := (mkE tab [(78, m_math_Signbit)] [])
set_option maxRecDepth 4000 in
theorem ek_i_SameNumber : EnvOK Try.prog E_i_SameNumber := (mkE_ok tab_ok mixed (AllF.cons ok_math_Signbit AllF.nil) AllX.nil)
theorem ev_i_SameNumber (a : Nat) (b : Nat) : evalF E_i_SameNumber noL Try.f22 [.ro false (.flt .f32), .ro false (.flt .f32)] (.one false .bool) (a, b, ()) = g_i_SameNumber a b := by kernel_rfl
def m_i_SameNumber : FM := { ps := [.ro false (.flt .f32), .ro false (.flt .f32)], res := .one false .bool, run := fun x => g_i_SameNumber x.1 x.2.1 }
set_option maxRecDepth 4000 in
theorem ok_i_SameNumber : FmOK Try.prog 22 m_i_SameNumber := @FmOK.made Try.prog E_i_SameNumber ek_i_SameNumber 22 Try.f22 noL m_i_SameNumber Try.func22 (by kernel_rfl) (Loops.none (by kernel_rfl)) fun ds out _ hr => by obtain ⟨a, b, ⟨⟩⟩ := ds; exact (ev_i_SameNumber a b).trans hr

def E_i_SameVector : Tabs := (mkE tab [(22, m_i_SameNumber)] [])
set_option maxRecDepth 4000 in
theorem ek_i_SameVector : EnvOK Try.prog E_i_SameVector := (mkE_ok tab_ok mixed (AllF.cons ok_i_SameNumber AllF.nil) AllX.nil)
theorem ev_i_SameVector (a : dVec) (b : dVec) : evalF E_i_SameVector noL Try.f54 [.ro true tVec, .ro true tVec] (.one false .bool) (a, b, ()) = g_i_SameVector a b := by kernel_rfl
def m_i_SameVector : FM := { ps := [.ro true tVec, .ro true tVec], res := .one false .bool, run := fun x => g_i_SameVector x.1 x.2.1 }
set_option maxRecDepth 4000 in
theorem ok_i_SameVector : FmOK Try.prog 54 m_i_SameVector := @FmOK.made Try.prog E_i_SameVector ek_i_SameVector 54 Try.f54 noL m_i_SameVector Try.func54 (by kernel_rfl) (Loops.none (by kernel_rfl)) fun ds out _ hr => by obtain ⟨a, b, ⟨⟩⟩ := ds; exact (ev_i_SameVector a b).trans hr

def E_w_FnRotations : Tabs := (mkE tab [(26, m_w_r8Long), (52, m_s_R8Turn), (30, m_s_R8Small), (44, m_i_RotateBy), (42, m_i_InverseOf), (53, m_i_MatrixOf), (39, m_i_LongOf), (31, m_w_r8Gap), (45, m_i_LessVectors), (54, m_i_SameVector), (55, m_i_CrossOf)] [])
set_option maxRecDepth 4000 in
theorem ek_w_FnRotations : EnvOK Try.prog E_w_FnRotations := (mkE_ok tab_ok mixed (AllF.cons ok_w_r8Long (AllF.cons ok_s_R8Turn (AllF.cons ok_s_R8Small (AllF.cons ok_i_RotateBy (AllF.cons ok_i_InverseOf (AllF.cons ok_i_MatrixOf (AllF.cons ok_i_LongOf (AllF.cons ok_w_r8Gap (AllF.cons ok_i_LessVectors (AllF.cons ok_i_SameVector (AllF.cons ok_i_CrossOf AllF.nil))))))))))) AllX.nil)
theorem ev_w_FnRotations (code : (List Int)) (more : (List Int)) : evalF E_w_FnRotations noL Try.f9 [.ro false (.slice (.int .u8)), .ro false (.slice (.int .u8))] (.one false .bool) (code, more, ()) = g_w_FnRotations code more := by kernel_rfl
end
end Go.Fw.F
