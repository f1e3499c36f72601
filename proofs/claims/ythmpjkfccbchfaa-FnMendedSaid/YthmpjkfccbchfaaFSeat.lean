/- The functions of the translation compute what the plain functions compute. No condition. -/
import Derived.Test.YthmpjkfccbchfaaFPure
import Derived.Test.YthmpjkfccbchfaaProg
import Derived.KernelRfl
set_option linter.unusedVariables false
namespace Go.Fw.F
open Go.Fw Go.Proofs Go.RowKit
noncomputable section
def tab : List (Nat × TI) := [
  (2, { und := .int .i64, size := 1, bytes := 8, zero := [.int .i64 0], ty := (.int .i64) }),
  (3, { und := .int .i64, size := 1, bytes := 8, zero := [.int .i64 0], ty := (.int .i64) }),
  (4, { und := .bool, size := 1, bytes := 1, zero := [.bool false], ty := .bool }),
  (5, { und := .int .u8, size := 1, bytes := 1, zero := [.int .u8 0], ty := (.int .u8) }),
  (22, { und := .slice 5, size := 1, bytes := 24, zero := [.sl .nil], ty := (.slice (.int .u8)) }),
  (24, { und := .flt .f32, size := 1, bytes := 4, zero := [.flt .f32 0], ty := (.flt .f32) }),
  (28, { und := .flt .f64, size := 1, bytes := 8, zero := [.flt .f64 0], ty := (.flt .f64) }),
  (40, { und := .struct [(0, 24), (1, 24), (2, 24)], size := 3, bytes := 12, zero := [.flt .f32 0, .flt .f32 0, .flt .f32 0], ty := tVec }),
  (50, { und := .struct [(0, 24), (1, 24), (2, 24), (3, 24)], size := 4, bytes := 16, zero := [.flt .f32 0, .flt .f32 0, .flt .f32 0, .flt .f32 0], ty := tTurn }),
  (76, { und := .other, size := 1, bytes := 8, zero := [.pnil], ty := .unit }),
  (82, { und := .int .u32, size := 1, bytes := 4, zero := [.int .u32 0], ty := (.int .u32) }),
  (97, { und := .int .u64, size := 1, bytes := 8, zero := [.int .u64 0], ty := (.int .u64) }),
  (99, { und := .struct [(0, 22), (1, 3), (2, 97)], size := 3, bytes := 40, zero := [.sl .nil, .int .i64 0, .int .u64 0], ty := (.pair (.slice (.int .u8)) (.pair (.int .i64) (.pair (.int .u64) .unit))) }),
  (102, { und := .slice 2, size := 1, bytes := 24, zero := [.sl .nil], ty := (.slice (.int .i64)) })]
theorem tab_ok : TabOK Try.prog (lookT tab) := tabB_spec (by kernel_rfl)
theorem mixed : Try.prog.follows .mixedOrders = true := by kernel_rfl
def E_w_r8Long : Tabs := (mkE tab [] [])
set_option maxRecDepth 4000 in
theorem ek_w_r8Long : EnvOK Try.prog E_w_r8Long := (mkE_ok tab_ok mixed AllF.nil AllX.nil)
theorem ev_w_r8Long (code : (List Int)) (more : (List Int)) : evalF E_w_r8Long noL Try.f26 [.ro false (.slice (.int .u8)), .ro false (.slice (.int .u8))] (.one false .bool) (code, more, ()) = g_w_r8Long code more := by kernel_rfl
def m_w_r8Long : FM := { ps := [.ro false (.slice (.int .u8)), .ro false (.slice (.int .u8))], res := .one false .bool, run := fun x => some (t_w_r8Long x.1 x.2.1) }
set_option maxRecDepth 4000 in
theorem ok_w_r8Long : FmOK Try.prog 26 m_w_r8Long := @FmOK.made Try.prog E_w_r8Long ek_w_r8Long 26 Try.f26 noL m_w_r8Long Try.func26 (by kernel_rfl) (Loops.none (by kernel_rfl)) fun ds out _ hr => by obtain ⟨code, more, ⟨⟩⟩ := ds; exact (ev_w_r8Long code more).trans ((q_w_r8Long code more).trans hr)

def E_s_l00From : Tabs := (mkE tab [] [])
set_option maxRecDepth 4000 in
theorem ek_s_l00From : EnvOK Try.prog E_s_l00From := (mkE_ok tab_ok mixed AllF.nil AllX.nil)
theorem ev_s_l00From (code : (List Int)) : evalX E_s_l00From noL Try.f67 [.ro false (.slice (.int .u8))] (.box tSrc) (code, ()) = g_s_l00From code := by kernel_rfl
def m_s_l00From : FX := { ps := [.ro false (.slice (.int .u8))], res := .box tSrc, run := fun x => some (t_s_l00From x.1) }
set_option maxRecDepth 4000 in
theorem ok_s_l00From : FxOK Try.prog 67 m_s_l00From := @FxOK.made Try.prog E_s_l00From ek_s_l00From 67 Try.f67 noL m_s_l00From Try.func67 (by kernel_rfl) (Loops.none (by kernel_rfl)) fun ds out _ hr => by obtain ⟨code, ⟨⟩⟩ := ds; exact (ev_s_l00From code).trans ((q_s_l00From code).trans hr)

def E_s_l00Src_next : Tabs := (mkE tab [] [])
set_option maxRecDepth 4000 in
theorem ek_s_l00Src_next : EnvOK Try.prog E_s_l00Src_next := (mkE_ok tab_ok mixed AllF.nil AllX.nil)
theorem ev_s_l00Src_next (s : dSrc) : evalX E_s_l00Src_next noL Try.f109 [.optr tSrc] (.one false (.int .i64)) (s, ()) = g_s_l00Src_next s := by kernel_rfl
def m_s_l00Src_next : FX := { ps := [.optr tSrc], res := .one false (.int .i64), run := fun x => g_s_l00Src_next x.1 }
set_option maxRecDepth 4000 in
theorem ok_s_l00Src_next : FxOK Try.prog 109 m_s_l00Src_next := @FxOK.made Try.prog E_s_l00Src_next ek_s_l00Src_next 109 Try.f109 noL m_s_l00Src_next Try.func109 (by kernel_rfl) (Loops.none (by kernel_rfl)) fun ds out _ hr => by obtain ⟨s, ⟨⟩⟩ := ds; exact (ev_s_l00Src_next s).trans hr

def E_s_l00Src_pick : Tabs := (mkE tab [] [(109, m_s_l00Src_next)])
set_option maxRecDepth 4000 in
theorem ek_s_l00Src_pick : EnvOK Try.prog E_s_l00Src_pick := (mkE_ok tab_ok mixed AllF.nil (AllX.cons ok_s_l00Src_next AllX.nil))
theorem ev_s_l00Src_pick (s : dSrc) (n : Int) : evalX E_s_l00Src_pick noL Try.f69 [.optr tSrc, .ro false (.int .i64)] (.one false (.int .i64)) (s, n, ()) = g_s_l00Src_pick s n := by kernel_rfl
def m_s_l00Src_pick : FX := { ps := [.optr tSrc, .ro false (.int .i64)], res := .one false (.int .i64), run := fun x => g_s_l00Src_pick x.1 x.2.1 }
set_option maxRecDepth 4000 in
theorem ok_s_l00Src_pick : FxOK Try.prog 69 m_s_l00Src_pick := @FxOK.made Try.prog E_s_l00Src_pick ek_s_l00Src_pick 69 Try.f69 noL m_s_l00Src_pick Try.func69 (by kernel_rfl) (Loops.none (by kernel_rfl)) fun ds out _ hr => by obtain ⟨s, n, ⟨⟩⟩ := ds; exact (ev_s_l00Src_pick s n).trans hr

def E_s_l01DrawSmall : Tabs := (mkE tab [] [(69, m_s_l00Src_pick)])
set_option maxRecDepth 4000 in
theorem ek_s_l01DrawSmall : EnvOK Try.prog E_s_l01DrawSmall := (mkE_ok tab_ok mixed AllF.nil (AllX.cons ok_s_l00Src_pick AllX.nil))
theorem ev_s_l01DrawSmall (s : dSrc) : evalX E_s_l01DrawSmall noL Try.f84 [.optr tSrc] (.one false (.flt .f32)) (s, ()) = g_s_l01DrawSmall s := by kernel_rfl
def m_s_l01DrawSmall : FX := { ps := [.optr tSrc], res := .one false (.flt .f32), run := fun x => g_s_l01DrawSmall x.1 }
set_option maxRecDepth 4000 in
theorem ok_s_l01DrawSmall : FxOK Try.prog 84 m_s_l01DrawSmall := @FxOK.made Try.prog E_s_l01DrawSmall ek_s_l01DrawSmall 84 Try.f84 noL m_s_l01DrawSmall Try.func84 (by kernel_rfl) (Loops.none (by kernel_rfl)) fun ds out _ hr => by obtain ⟨s, ⟨⟩⟩ := ds; exact (ev_s_l01DrawSmall s).trans hr

def E_s_R8Small : Tabs := (mkE tab [] [(67, m_s_l00From), (84, m_s_l01DrawSmall)])
set_option maxRecDepth 4000 in
theorem ek_s_R8Small : EnvOK Try.prog E_s_R8Small := (mkE_ok tab_ok mixed AllF.nil (AllX.cons ok_s_l00From (AllX.cons ok_s_l01DrawSmall AllX.nil)))
theorem ev_s_R8Small (code : (List Int)) : evalF E_s_R8Small noL Try.f30 [.ro false (.slice (.int .u8))] (.one true tVec) (code, ()) = g_s_R8Small code := by kernel_rfl
def m_s_R8Small : FM := { ps := [.ro false (.slice (.int .u8))], res := .one true tVec, run := fun x => g_s_R8Small x.1 }
set_option maxRecDepth 4000 in
theorem ok_s_R8Small : FmOK Try.prog 30 m_s_R8Small := @FmOK.made Try.prog E_s_R8Small ek_s_R8Small 30 Try.f30 noL m_s_R8Small Try.func30 (by kernel_rfl) (Loops.none (by kernel_rfl)) fun ds out _ hr => by obtain ⟨code, ⟨⟩⟩ := ds; exact (ev_s_R8Small code).trans hr

def E_i_InnerOfTurns : Tabs := (mkE tab [] [])
set_option maxRecDepth 4000 in
theorem ek_i_InnerOfTurns : EnvOK Try.prog E_i_InnerOfTurns := (mkE_ok tab_ok mixed AllF.nil AllX.nil)
theorem ev_i_InnerOfTurns (a : dTurn) (b : dTurn) : evalF E_i_InnerOfTurns noL Try.f50 [.ro true tTurn, .ro true tTurn] (.one false (.flt .f32)) (a, b, ()) = g_i_InnerOfTurns a b := by kernel_rfl
def m_i_InnerOfTurns : FM := { ps := [.ro true tTurn, .ro true tTurn], res := .one false (.flt .f32), run := fun x => some (t_i_InnerOfTurns x.1 x.2.1) }
set_option maxRecDepth 4000 in
theorem ok_i_InnerOfTurns : FmOK Try.prog 50 m_i_InnerOfTurns := @FmOK.made Try.prog E_i_InnerOfTurns ek_i_InnerOfTurns 50 Try.f50 noL m_i_InnerOfTurns Try.func50 (by kernel_rfl) (Loops.none (by kernel_rfl)) fun ds out _ hr => by obtain ⟨a, b, ⟨⟩⟩ := ds; exact (ev_i_InnerOfTurns a b).trans ((q_i_InnerOfTurns a b).trans hr)

set_option maxRecDepth 4000 in
theorem ok_mathsqrt : FmOK Try.prog 117 m_mathsqrt := FmOK.sqrt Try.func117 (by kernel_rfl) rfl (by kernel_rfl) (by kernel_rfl)

def E_math_Sqrt : Tabs := (mkE tab [(117, m_mathsqrt)] [])
set_option maxRecDepth 4000 in
theorem ek_math_Sqrt : EnvOK Try.prog E_math_Sqrt := (mkE_ok tab_ok mixed (AllF.cons ok_mathsqrt AllF.nil) AllX.nil)
theorem ev_math_Sqrt (xx : Nat) : evalF E_math_Sqrt noL Try.f114 [.ro false (.flt .f64)] (.one false (.flt .f64)) (xx, ()) = g_math_Sqrt xx := by kernel_rfl
def m_math_Sqrt : FM := { ps := [.ro false (.flt .f64)], res := .one false (.flt .f64), run := fun x => some (t_math_Sqrt x.1) }
set_option maxRecDepth 4000 in
theorem ok_math_Sqrt : FmOK Try.prog 114 m_math_Sqrt := @FmOK.made Try.prog E_math_Sqrt ek_math_Sqrt 114 Try.f114 noL m_math_Sqrt Try.func114 (by kernel_rfl) (Loops.none (by kernel_rfl)) fun ds out _ hr => by obtain ⟨xx, ⟨⟩⟩ := ds; exact (ev_math_Sqrt xx).trans ((q_math_Sqrt xx).trans hr)

def E_i_RootNumber : Tabs := (mkE tab [(114, m_math_Sqrt)] [])
set_option maxRecDepth 4000 in
theorem ek_i_RootNumber : EnvOK Try.prog E_i_RootNumber := (mkE_ok tab_ok mixed (AllF.cons ok_math_Sqrt AllF.nil) AllX.nil)
theorem ev_i_RootNumber (xx : Nat) : evalF E_i_RootNumber noL Try.f88 [.ro false (.flt .f32)] (.one false (.flt .f32)) (xx, ()) = g_i_RootNumber xx := by kernel_rfl
def m_i_RootNumber : FM := { ps := [.ro false (.flt .f32)], res := .one false (.flt .f32), run := fun x => g_i_RootNumber x.1 }
set_option maxRecDepth 4000 in
theorem ok_i_RootNumber : FmOK Try.prog 88 m_i_RootNumber := @FmOK.made Try.prog E_i_RootNumber ek_i_RootNumber 88 Try.f88 noL m_i_RootNumber Try.func88 (by kernel_rfl) (Loops.none (by kernel_rfl)) fun ds out _ hr => by obtain ⟨xx, ⟨⟩⟩ := ds; exact (ev_i_RootNumber xx).trans hr

def E_i_LengthOfTurn : Tabs := (mkE tab [(50, m_i_InnerOfTurns), (88, m_i_RootNumber)] [])
set_option maxRecDepth 4000 in
theorem ek_i_LengthOfTurn : EnvOK Try.prog E_i_LengthOfTurn := (mkE_ok tab_ok mixed (AllF.cons ok_i_InnerOfTurns (AllF.cons ok_i_RootNumber AllF.nil)) AllX.nil)
theorem ev_i_LengthOfTurn (t : dTurn) : evalF E_i_LengthOfTurn noL Try.f41 [.ro true tTurn] (.one false (.flt .f32)) (t, ()) = g_i_LengthOfTurn t := by kernel_rfl
def m_i_LengthOfTurn : FM := { ps := [.ro true tTurn], res := .one false (.flt .f32), run := fun x => g_i_LengthOfTurn x.1 }
set_option maxRecDepth 4000 in
theorem ok_i_LengthOfTurn : FmOK Try.prog 41 m_i_LengthOfTurn := @FmOK.made Try.prog E_i_LengthOfTurn ek_i_LengthOfTurn 41 Try.f41 noL m_i_LengthOfTurn Try.func41 (by kernel_rfl) (Loops.none (by kernel_rfl)) fun ds out _ hr => by obtain ⟨t, ⟨⟩⟩ := ds; exact (ev_i_LengthOfTurn t).trans hr

def E_i_IsFinite : Tabs := (mkE tab [] [])
set_option maxRecDepth 4000 in
theorem ek_i_IsFinite : EnvOK Try.prog E_i_IsFinite := (mkE_ok tab_ok mixed AllF.nil AllX.nil)
theorem ev_i_IsFinite (xx : Nat) : evalF E_i_IsFinite noL Try.f23 [.ro false (.flt .f32)] (.one false .bool) (xx, ()) = g_i_IsFinite xx := by kernel_rfl
def m_i_IsFinite : FM := { ps := [.ro false (.flt .f32)], res := .one false .bool, run := fun x => some (t_i_IsFinite x.1) }
set_option maxRecDepth 4000 in
theorem ok_i_IsFinite : FmOK Try.prog 23 m_i_IsFinite := @FmOK.made Try.prog E_i_IsFinite ek_i_IsFinite 23 Try.f23 noL m_i_IsFinite Try.func23 (by kernel_rfl) (Loops.none (by kernel_rfl)) fun ds out _ hr => by obtain ⟨xx, ⟨⟩⟩ := ds; exact (ev_i_IsFinite xx).trans ((q_i_IsFinite xx).trans hr)

def E_i_isLength : Tabs := (mkE tab [(23, m_i_IsFinite)] [])
set_option maxRecDepth 4000 in
theorem ek_i_isLength : EnvOK Try.prog E_i_isLength := (mkE_ok tab_ok mixed (AllF.cons ok_i_IsFinite AllF.nil) AllX.nil)
theorem ev_i_isLength (n : Nat) : evalF E_i_isLength noL Try.f93 [.ro false (.flt .f32)] (.one false .bool) (n, ()) = g_i_isLength n := by kernel_rfl
def m_i_isLength : FM := { ps := [.ro false (.flt .f32)], res := .one false .bool, run := fun x => some (t_i_isLength x.1) }
set_option maxRecDepth 4000 in
theorem ok_i_isLength : FmOK Try.prog 93 m_i_isLength := @FmOK.made Try.prog E_i_isLength ek_i_isLength 93 Try.f93 noL m_i_isLength Try.func93 (by kernel_rfl) (Loops.none (by kernel_rfl)) fun ds out _ hr => by obtain ⟨n, ⟨⟩⟩ := ds; exact (ev_i_isLength n).trans ((q_i_isLength n).trans hr)

def E_i_NoTurn : Tabs := (mkE tab [] [])
set_option maxRecDepth 4000 in
theorem ek_i_NoTurn : EnvOK Try.prog E_i_NoTurn := (mkE_ok tab_ok mixed AllF.nil AllX.nil)
theorem ev_i_NoTurn  : evalF E_i_NoTurn noL Try.f49 [] (.one true tTurn) (()) = g_i_NoTurn  := by kernel_rfl
def m_i_NoTurn : FM := { ps := [], res := .one true tTurn, run := fun x => some (t_i_NoTurn ) }
set_option maxRecDepth 4000 in
theorem ok_i_NoTurn : FmOK Try.prog 49 m_i_NoTurn := @FmOK.made Try.prog E_i_NoTurn ek_i_NoTurn 49 Try.f49 noL m_i_NoTurn Try.func49 (by kernel_rfl) (Loops.none (by kernel_rfl)) fun ds out _ hr => by obtain ⟨⟨⟩⟩ := ds; exact (ev_i_NoTurn ).trans ((q_i_NoTurn ).trans hr)

def E_i_MendTurn : Tabs := (mkE tab [(41, m_i_LengthOfTurn), (93, m_i_isLength), (49, m_i_NoTurn)] [])
set_option maxRecDepth 4000 in
theorem ek_i_MendTurn : EnvOK Try.prog E_i_MendTurn := (mkE_ok tab_ok mixed (AllF.cons ok_i_LengthOfTurn (AllF.cons ok_i_isLength (AllF.cons ok_i_NoTurn AllF.nil))) AllX.nil)
theorem ev_i_MendTurn (t : dTurn) : evalF E_i_MendTurn noL Try.f51 [.ro true tTurn] (.one true tTurn) (t, ()) = g_i_MendTurn t := by kernel_rfl
def m_i_MendTurn : FM := { ps := [.ro true tTurn], res := .one true tTurn, run := fun x => g_i_MendTurn x.1 }
set_option maxRecDepth 4000 in
theorem ok_i_MendTurn : FmOK Try.prog 51 m_i_MendTurn := @FmOK.made Try.prog E_i_MendTurn ek_i_MendTurn 51 Try.f51 noL m_i_MendTurn Try.func51 (by kernel_rfl) (Loops.none (by kernel_rfl)) fun ds out _ hr => by obtain ⟨t, ⟨⟩⟩ := ds; exact (ev_i_MendTurn t).trans hr

def E_w_r8Gap : Tabs := (mkE tab [] [])
set_option maxRecDepth 4000 in
theorem ek_w_r8Gap : EnvOK Try.prog E_w_r8Gap := (mkE_ok tab_ok mixed AllF.nil AllX.nil)
theorem ev_w_r8Gap (a : Nat) (b : Nat) : evalF E_w_r8Gap noL Try.f31 [.ro false (.flt .f64), .ro false (.flt .f64)] (.one false (.flt .f64)) (a, b, ()) = g_w_r8Gap a b := by kernel_rfl
def m_w_r8Gap : FM := { ps := [.ro false (.flt .f64), .ro false (.flt .f64)], res := .one false (.flt .f64), run := fun x => some (t_w_r8Gap x.1 x.2.1) }
set_option maxRecDepth 4000 in
theorem ok_w_r8Gap : FmOK Try.prog 31 m_w_r8Gap := @FmOK.made Try.prog E_w_r8Gap ek_w_r8Gap 31 Try.f31 noL m_w_r8Gap Try.func31 (by kernel_rfl) (Loops.none (by kernel_rfl)) fun ds out _ hr => by obtain ⟨a, b, ⟨⟩⟩ := ds; exact (ev_w_r8Gap a b).trans ((q_w_r8Gap a b).trans hr)

def E_s_l00Src_one : Tabs := (mkE tab [] [(69, m_s_l00Src_pick)])
set_option maxRecDepth 4000 in
theorem ek_s_l00Src_one : EnvOK Try.prog E_s_l00Src_one := (mkE_ok tab_ok mixed AllF.nil (AllX.cons ok_s_l00Src_pick AllX.nil))
theorem ev_s_l00Src_one (s : dSrc) (n : Int) : evalX E_s_l00Src_one noL Try.f68 [.optr tSrc, .ro false (.int .i64)] (.one false .bool) (s, n, ()) = g_s_l00Src_one s n := by kernel_rfl
def m_s_l00Src_one : FX := { ps := [.optr tSrc, .ro false (.int .i64)], res := .one false .bool, run := fun x => g_s_l00Src_one x.1 x.2.1 }
set_option maxRecDepth 4000 in
theorem ok_s_l00Src_one : FxOK Try.prog 68 m_s_l00Src_one := @FxOK.made Try.prog E_s_l00Src_one ek_s_l00Src_one 68 Try.f68 noL m_s_l00Src_one Try.func68 (by kernel_rfl) (Loops.none (by kernel_rfl)) fun ds out _ hr => by obtain ⟨s, n, ⟨⟩⟩ := ds; exact (ev_s_l00Src_one s n).trans hr

def E_s_l02DrawExact : Tabs := (mkE tab [] [(69, m_s_l00Src_pick)])
set_option maxRecDepth 4000 in
theorem ek_s_l02DrawExact : EnvOK Try.prog E_s_l02DrawExact := (mkE_ok tab_ok mixed AllF.nil (AllX.cons ok_s_l00Src_pick AllX.nil))
theorem ev_s_l02DrawExact (s : dSrc) : evalX E_s_l02DrawExact noL Try.f92 [.optr tSrc] (.one true tTurn) (s, ()) = g_s_l02DrawExact s := by kernel_rfl
def m_s_l02DrawExact : FX := { ps := [.optr tSrc], res := .one true tTurn, run := fun x => g_s_l02DrawExact x.1 }
set_option maxRecDepth 4000 in
theorem ok_s_l02DrawExact : FxOK Try.prog 92 m_s_l02DrawExact := @FxOK.made Try.prog E_s_l02DrawExact ek_s_l02DrawExact 92 Try.f92 noL m_s_l02DrawExact Try.func92 (by kernel_rfl) (Loops.none (by kernel_rfl)) fun ds out _ hr => by obtain ⟨s, ⟨⟩⟩ := ds; exact (ev_s_l02DrawExact s).trans hr

def E_s_l02Inner : Tabs := (mkE tab [] [])
set_option maxRecDepth 4000 in
theorem ek_s_l02Inner : EnvOK Try.prog E_s_l02Inner := (mkE_ok tab_ok mixed AllF.nil AllX.nil)
theorem ev_s_l02Inner (a : dTurn) (b : dTurn) : evalF E_s_l02Inner noL Try.f118 [.ro true tTurn, .ro true tTurn] (.one false (.flt .f32)) (a, b, ()) = g_s_l02Inner a b := by kernel_rfl
def m_s_l02Inner : FM := { ps := [.ro true tTurn, .ro true tTurn], res := .one false (.flt .f32), run := fun x => some (t_s_l02Inner x.1 x.2.1) }
set_option maxRecDepth 4000 in
theorem ok_s_l02Inner : FmOK Try.prog 118 m_s_l02Inner := @FmOK.made Try.prog E_s_l02Inner ek_s_l02Inner 118 Try.f118 noL m_s_l02Inner Try.func118 (by kernel_rfl) (Loops.none (by kernel_rfl)) fun ds out _ hr => by obtain ⟨a, b, ⟨⟩⟩ := ds; exact (ev_s_l02Inner a b).trans ((q_s_l02Inner a b).trans hr)

def E_s_l01Narrow : Tabs := (mkE tab [] [])
set_option maxRecDepth 4000 in
theorem ek_s_l01Narrow : EnvOK Try.prog E_s_l01Narrow := (mkE_ok tab_ok mixed AllF.nil AllX.nil)
theorem ev_s_l01Narrow (xx : Nat) : evalF E_s_l01Narrow noL Try.f116 [.ro false (.flt .f64)] (.one false (.flt .f32)) (xx, ()) = g_s_l01Narrow xx := by kernel_rfl
def m_s_l01Narrow : FM := { ps := [.ro false (.flt .f64)], res := .one false (.flt .f32), run := fun x => g_s_l01Narrow x.1 }
set_option maxRecDepth 4000 in
theorem ok_s_l01Narrow : FmOK Try.prog 116 m_s_l01Narrow := @FmOK.made Try.prog E_s_l01Narrow ek_s_l01Narrow 116 Try.f116 noL m_s_l01Narrow Try.func116 (by kernel_rfl) (Loops.none (by kernel_rfl)) fun ds out _ hr => by obtain ⟨xx, ⟨⟩⟩ := ds; exact (ev_s_l01Narrow xx).trans hr

def E_s_l01Sqrt : Tabs := (mkE tab [(114, m_math_Sqrt), (116, m_s_l01Narrow)] [])
set_option maxRecDepth 4000 in
theorem ek_s_l01Sqrt : EnvOK Try.prog E_s_l01Sqrt := (mkE_ok tab_ok mixed (AllF.cons ok_math_Sqrt (AllF.cons ok_s_l01Narrow AllF.nil)) AllX.nil)
theorem ev_s_l01Sqrt (xx : Nat) : evalF E_s_l01Sqrt noL Try.f103 [.ro false (.flt .f32)] (.one false (.flt .f32)) (xx, ()) = g_s_l01Sqrt xx := by kernel_rfl
def m_s_l01Sqrt : FM := { ps := [.ro false (.flt .f32)], res := .one false (.flt .f32), run := fun x => g_s_l01Sqrt x.1 }
set_option maxRecDepth 4000 in
theorem ok_s_l01Sqrt : FmOK Try.prog 103 m_s_l01Sqrt := @FmOK.made Try.prog E_s_l01Sqrt ek_s_l01Sqrt 103 Try.f103 noL m_s_l01Sqrt Try.func103 (by kernel_rfl) (Loops.none (by kernel_rfl)) fun ds out _ hr => by obtain ⟨xx, ⟨⟩⟩ := ds; exact (ev_s_l01Sqrt xx).trans hr

def E_s_l02No : Tabs := (mkE tab [] [])
set_option maxRecDepth 4000 in
theorem ek_s_l02No : EnvOK Try.prog E_s_l02No := (mkE_ok tab_ok mixed AllF.nil AllX.nil)
theorem ev_s_l02No  : evalF E_s_l02No noL Try.f119 [] (.one true tTurn) (()) = g_s_l02No  := by kernel_rfl
def m_s_l02No : FM := { ps := [], res := .one true tTurn, run := fun x => some (t_s_l02No ) }
set_option maxRecDepth 4000 in
theorem ok_s_l02No : FmOK Try.prog 119 m_s_l02No := @FmOK.made Try.prog E_s_l02No ek_s_l02No 119 Try.f119 noL m_s_l02No Try.func119 (by kernel_rfl) (Loops.none (by kernel_rfl)) fun ds out _ hr => by obtain ⟨⟨⟩⟩ := ds; exact (ev_s_l02No ).trans ((q_s_l02No ).trans hr)

def E_s_l01Finite : Tabs := (mkE tab [] [])
set_option maxRecDepth 4000 in
theorem ek_s_l01Finite : EnvOK Try.prog E_s_l01Finite := (mkE_ok tab_ok mixed AllF.nil AllX.nil)
theorem ev_s_l01Finite (xx : Nat) : evalF E_s_l01Finite noL Try.f74 [.ro false (.flt .f32)] (.one false .bool) (xx, ()) = g_s_l01Finite xx := by kernel_rfl
def m_s_l01Finite : FM := { ps := [.ro false (.flt .f32)], res := .one false .bool, run := fun x => some (t_s_l01Finite x.1) }
set_option maxRecDepth 4000 in
theorem ok_s_l01Finite : FmOK Try.prog 74 m_s_l01Finite := @FmOK.made Try.prog E_s_l01Finite ek_s_l01Finite 74 Try.f74 noL m_s_l01Finite Try.func74 (by kernel_rfl) (Loops.none (by kernel_rfl)) fun ds out _ hr => by obtain ⟨xx, ⟨⟩⟩ := ds; exact (ev_s_l01Finite xx).trans ((q_s_l01Finite xx).trans hr)

def E_s_l02Mend : Tabs := (mkE tab [(118, m_s_l02Inner), (103, m_s_l01Sqrt), (119, m_s_l02No), (74, m_s_l01Finite)] [])
set_option maxRecDepth 4000 in
theorem ek_s_l02Mend : EnvOK Try.prog E_s_l02Mend := (mkE_ok tab_ok mixed (AllF.cons ok_s_l02Inner (AllF.cons ok_s_l01Sqrt (AllF.cons ok_s_l02No (AllF.cons ok_s_l01Finite AllF.nil)))) AllX.nil)
theorem ev_s_l02Mend (t : dTurn) : evalF E_s_l02Mend noL Try.f115 [.ro true tTurn] (.one true tTurn) (t, ()) = g_s_l02Mend t := by kernel_rfl
def m_s_l02Mend : FM := { ps := [.ro true tTurn], res := .one true tTurn, run := fun x => g_s_l02Mend x.1 }
set_option maxRecDepth 4000 in
theorem ok_s_l02Mend : FmOK Try.prog 115 m_s_l02Mend := @FmOK.made Try.prog E_s_l02Mend ek_s_l02Mend 115 Try.f115 noL m_s_l02Mend Try.func115 (by kernel_rfl) (Loops.none (by kernel_rfl)) fun ds out _ hr => by obtain ⟨t, ⟨⟩⟩ := ds; exact (ev_s_l02Mend t).trans hr

def E_s_l02DrawTurn : Tabs := (mkE tab [(115, m_s_l02Mend)] [(68, m_s_l00Src_one), (92, m_s_l02DrawExact), (84, m_s_l01DrawSmall)])
set_option maxRecDepth 4000 in
theorem ek_s_l02DrawTurn : EnvOK Try.prog E_s_l02DrawTurn := (mkE_ok tab_ok mixed (AllF.cons ok_s_l02Mend AllF.nil) (AllX.cons ok_s_l00Src_one (AllX.cons ok_s_l02DrawExact (AllX.cons ok_s_l01DrawSmall AllX.nil))))
theorem ev_s_l02DrawTurn (s : dSrc) : evalX E_s_l02DrawTurn noL Try.f94 [.optr tSrc] (.one true tTurn) (s, ()) = g_s_l02DrawTurn s := by kernel_rfl
def m_s_l02DrawTurn : FX := { ps := [.optr tSrc], res := .one true tTurn, run := fun x => g_s_l02DrawTurn x.1 }
set_option maxRecDepth 4000 in
theorem ok_s_l02DrawTurn : FxOK Try.prog 94 m_s_l02DrawTurn := @FxOK.made Try.prog E_s_l02DrawTurn ek_s_l02DrawTurn 94 Try.f94 noL m_s_l02DrawTurn Try.func94 (by kernel_rfl) (Loops.none (by kernel_rfl)) fun ds out _ hr => by obtain ⟨s, ⟨⟩⟩ := ds; exact (ev_s_l02DrawTurn s).trans hr

def E_s_l01DrawPlain : Tabs := (mkE tab [] [(69, m_s_l00Src_pick), (68, m_s_l00Src_one)])
set_option maxRecDepth 4000 in
theorem ek_s_l01DrawPlain : EnvOK Try.prog E_s_l01DrawPlain := (mkE_ok tab_ok mixed AllF.nil (AllX.cons ok_s_l00Src_pick (AllX.cons ok_s_l00Src_one AllX.nil)))
theorem ev_s_l01DrawPlain (s : dSrc) : evalX E_s_l01DrawPlain noL Try.f110 [.optr tSrc] (.one false (.flt .f32)) (s, ()) = g_s_l01DrawPlain s := by kernel_rfl
def m_s_l01DrawPlain : FX := { ps := [.optr tSrc], res := .one false (.flt .f32), run := fun x => g_s_l01DrawPlain x.1 }
set_option maxRecDepth 4000 in
theorem ok_s_l01DrawPlain : FxOK Try.prog 110 m_s_l01DrawPlain := @FxOK.made Try.prog E_s_l01DrawPlain ek_s_l01DrawPlain 110 Try.f110 noL m_s_l01DrawPlain Try.func110 (by kernel_rfl) (Loops.none (by kernel_rfl)) fun ds out _ hr => by obtain ⟨s, ⟨⟩⟩ := ds; exact (ev_s_l01DrawPlain s).trans hr

def E_s_l00Src_among : Tabs := (mkE tab [] [(69, m_s_l00Src_pick)])
set_option maxRecDepth 4000 in
theorem ek_s_l00Src_among : EnvOK Try.prog E_s_l00Src_among := (mkE_ok tab_ok mixed AllF.nil (AllX.cons ok_s_l00Src_pick AllX.nil))
theorem ev_s_l00Src_among (s : dSrc) (list : (List Int)) : evalX E_s_l00Src_among noL Try.f111 [.optr tSrc, .own false (.slice (.int .i64))] (.one false (.int .i64)) (s, list, ()) = g_s_l00Src_among s list := by kernel_rfl
def m_s_l00Src_among : FX := { ps := [.optr tSrc, .own false (.slice (.int .i64))], res := .one false (.int .i64), run := fun x => g_s_l00Src_among x.1 x.2.1 }
set_option maxRecDepth 4000 in
theorem ok_s_l00Src_among : FxOK Try.prog 111 m_s_l00Src_among := @FxOK.made Try.prog E_s_l00Src_among ek_s_l00Src_among 111 Try.f111 noL m_s_l00Src_among Try.func111 (by kernel_rfl) (Loops.none (by kernel_rfl)) fun ds out _ hr => by obtain ⟨s, list, ⟨⟩⟩ := ds; exact (ev_s_l00Src_among s list).trans hr

set_option maxRecDepth 4000 in
theorem ok_float32frombits : FmOK Try.prog 77 m_float32frombits := FmOK.from (e := Extern.MathFloatBits.float32frombits) Try.func77 (by kernel_rfl) rfl (by kernel_rfl) (by kernel_rfl) (fun _ _ => rfl) (by decide) (by decide)

def E_s_l01From : Tabs := (mkE tab [(77, m_float32frombits)] [])
set_option maxRecDepth 4000 in
theorem ek_s_l01From : EnvOK Try.prog E_s_l01From := (mkE_ok tab_ok mixed (AllF.cons ok_float32frombits AllF.nil) AllX.nil)
theorem ev_s_l01From (n : Int) : evalF E_s_l01From noL Try.f70 [.ro false (.int .i64)] (.one false (.flt .f32)) (n, ()) = g_s_l01From n := by kernel_rfl
def m_s_l01From : FM := { ps := [.ro false (.int .i64)], res := .one false (.flt .f32), run := fun x => some (t_s_l01From x.1) }
set_option maxRecDepth 4000 in
theorem ok_s_l01From : FmOK Try.prog 70 m_s_l01From := @FmOK.made Try.prog E_s_l01From ek_s_l01From 70 Try.f70 noL m_s_l01From Try.func70 (by kernel_rfl) (Loops.none (by kernel_rfl)) fun ds out _ hr => by obtain ⟨n, ⟨⟩⟩ := ds; exact (ev_s_l01From n).trans ((q_s_l01From n).trans hr)

def E_s_l01DrawFloat : Tabs := (mkE tab [(70, m_s_l01From)] [(68, m_s_l00Src_one), (110, m_s_l01DrawPlain), (69, m_s_l00Src_pick), (111, m_s_l00Src_among)])
set_option maxRecDepth 4000 in
theorem ek_s_l01DrawFloat : EnvOK Try.prog E_s_l01DrawFloat := (mkE_ok tab_ok mixed (AllF.cons ok_s_l01From AllF.nil) (AllX.cons ok_s_l00Src_one (AllX.cons ok_s_l01DrawPlain (AllX.cons ok_s_l00Src_pick (AllX.cons ok_s_l00Src_among AllX.nil)))))
theorem ev_s_l01DrawFloat (s : dSrc) : evalX E_s_l01DrawFloat noL Try.f71 [.optr tSrc] (.one false (.flt .f32)) (s, ()) = g_s_l01DrawFloat s := by kernel_rfl
def m_s_l01DrawFloat : FX := { ps := [.optr tSrc], res := .one false (.flt .f32), run := fun x => g_s_l01DrawFloat x.1 }
set_option maxRecDepth 4000 in
theorem ok_s_l01DrawFloat : FxOK Try.prog 71 m_s_l01DrawFloat := @FxOK.made Try.prog E_s_l01DrawFloat ek_s_l01DrawFloat 71 Try.f71 noL m_s_l01DrawFloat Try.func71 (by kernel_rfl) (Loops.none (by kernel_rfl)) fun ds out _ hr => by obtain ⟨s, ⟨⟩⟩ := ds; exact (ev_s_l01DrawFloat s).trans hr

def E_s_l02DrawAny : Tabs := (mkE tab [] [(68, m_s_l00Src_one), (94, m_s_l02DrawTurn), (71, m_s_l01DrawFloat)])
set_option maxRecDepth 4000 in
theorem ek_s_l02DrawAny : EnvOK Try.prog E_s_l02DrawAny := (mkE_ok tab_ok mixed AllF.nil (AllX.cons ok_s_l00Src_one (AllX.cons ok_s_l02DrawTurn (AllX.cons ok_s_l01DrawFloat AllX.nil))))
theorem ev_s_l02DrawAny (s : dSrc) : evalX E_s_l02DrawAny noL Try.f108 [.optr tSrc] (.one true tTurn) (s, ()) = g_s_l02DrawAny s := by kernel_rfl
def m_s_l02DrawAny : FX := { ps := [.optr tSrc], res := .one true tTurn, run := fun x => g_s_l02DrawAny x.1 }
set_option maxRecDepth 4000 in
theorem ok_s_l02DrawAny : FxOK Try.prog 108 m_s_l02DrawAny := @FxOK.made Try.prog E_s_l02DrawAny ek_s_l02DrawAny 108 Try.f108 noL m_s_l02DrawAny Try.func108 (by kernel_rfl) (Loops.none (by kernel_rfl)) fun ds out _ hr => by obtain ⟨s, ⟨⟩⟩ := ds; exact (ev_s_l02DrawAny s).trans hr

def E_s_R8Any : Tabs := (mkE tab [] [(67, m_s_l00From), (108, m_s_l02DrawAny)])
set_option maxRecDepth 4000 in
theorem ek_s_R8Any : EnvOK Try.prog E_s_R8Any := (mkE_ok tab_ok mixed AllF.nil (AllX.cons ok_s_l00From (AllX.cons ok_s_l02DrawAny AllX.nil)))
theorem ev_s_R8Any (code : (List Int)) : evalF E_s_R8Any noL Try.f65 [.ro false (.slice (.int .u8))] (.one true tTurn) (code, ()) = g_s_R8Any code := by kernel_rfl
def m_s_R8Any : FM := { ps := [.ro false (.slice (.int .u8))], res := .one true tTurn, run := fun x => g_s_R8Any x.1 }
set_option maxRecDepth 4000 in
theorem ok_s_R8Any : FmOK Try.prog 65 m_s_R8Any := @FmOK.made Try.prog E_s_R8Any ek_s_R8Any 65 Try.f65 noL m_s_R8Any Try.func65 (by kernel_rfl) (Loops.none (by kernel_rfl)) fun ds out _ hr => by obtain ⟨code, ⟨⟩⟩ := ds; exact (ev_s_R8Any code).trans hr

set_option maxRecDepth 4000 in
theorem ok_float64bits : FmOK Try.prog 112 m_float64bits := FmOK.bits (e := Extern.MathFloatBits.float64bits) Try.func112 (by kernel_rfl) rfl (by kernel_rfl) (by kernel_rfl) (fun _ _ => rfl) (by decide) (by decide)

def E_math_Signbit : Tabs := (mkE tab [(112, m_float64bits)] [])
set_option maxRecDepth 4000 in
theorem ek_math_Signbit : EnvOK Try.prog E_math_Signbit := (mkE_ok tab_ok mixed (AllF.cons ok_float64bits AllF.nil) AllX.nil)
theorem ev_math_Signbit (xx : Nat) : evalF E_math_Signbit noL Try.f78 [.ro false (.flt .f64)] (.one false .bool) (xx, ()) = g_math_Signbit xx := by kernel_rfl
def m_math_Signbit : FM := { ps := [.ro false (.flt .f64)], res := .one false .bool, run := fun x => g_math_Signbit x.1 }
set_option maxRecDepth 4000 in
theorem ok_math_Signbit : FmOK Try.prog 78 m_math_Signbit := @FmOK.made Try.prog E_math_Signbit ek_math_Signbit 78 Try.f78 noL m_math_Signbit Try.func78 (by kernel_rfl) (Loops.none (by kernel_rfl)) fun ds out _ hr => by obtain ⟨xx, ⟨⟩⟩ := ds; exact (ev_math_Signbit xx).trans hr

def E_i_SameNumber : Tabs := (mkE tab [(78, m_math_Signbit)] [])
set_option maxRecDepth 4000 in
theorem ek_i_SameNumber : EnvOK Try.prog E_i_SameNumber := (mkE_ok tab_ok mixed (AllF.cons ok_math_Signbit AllF.nil) AllX.nil)
theorem ev_i_SameNumber (a : Nat) (b : Nat) : evalF E_i_SameNumber noL Try.f22 [.ro false (.flt .f32), .ro false (.flt .f32)] (.one false .bool) (a, b, ()) = g_i_SameNumber a b := by kernel_rfl
def m_i_SameNumber : FM := { ps := [.ro false (.flt .f32), .ro false (.flt .f32)], res := .one false .bool, run := fun x => g_i_SameNumber x.1 x.2.1 }
set_option maxRecDepth 4000 in
theorem ok_i_SameNumber : FmOK Try.prog 22 m_i_SameNumber := @FmOK.made Try.prog E_i_SameNumber ek_i_SameNumber 22 Try.f22 noL m_i_SameNumber Try.func22 (by kernel_rfl) (Loops.none (by kernel_rfl)) fun ds out _ hr => by obtain ⟨a, b, ⟨⟩⟩ := ds; exact (ev_i_SameNumber a b).trans hr

def E_i_SameTurn : Tabs := (mkE tab [(22, m_i_SameNumber)] [])
set_option maxRecDepth 4000 in
theorem ek_i_SameTurn : EnvOK Try.prog E_i_SameTurn := (mkE_ok tab_ok mixed (AllF.cons ok_i_SameNumber AllF.nil) AllX.nil)
theorem ev_i_SameTurn (a : dTurn) (b : dTurn) : evalF E_i_SameTurn noL Try.f66 [.ro true tTurn, .ro true tTurn] (.one false .bool) (a, b, ()) = g_i_SameTurn a b := by kernel_rfl
def m_i_SameTurn : FM := { ps := [.ro true tTurn, .ro true tTurn], res := .one false .bool, run := fun x => g_i_SameTurn x.1 x.2.1 }
set_option maxRecDepth 4000 in
theorem ok_i_SameTurn : FmOK Try.prog 66 m_i_SameTurn := @FmOK.made Try.prog E_i_SameTurn ek_i_SameTurn 66 Try.f66 noL m_i_SameTurn Try.func66 (by kernel_rfl) (Loops.none (by kernel_rfl)) fun ds out _ hr => by obtain ⟨a, b, ⟨⟩⟩ := ds; exact (ev_i_SameTurn a b).trans hr

def E_w_FnMended : Tabs := (mkE tab [(26, m_w_r8Long), (30, m_s_R8Small), (51, m_i_MendTurn), (41, m_i_LengthOfTurn), (31, m_w_r8Gap), (49, m_i_NoTurn), (65, m_s_R8Any), (22, m_i_SameNumber), (66, m_i_SameTurn)] [])
set_option maxRecDepth 4000 in
theorem ek_w_FnMended : EnvOK Try.prog E_w_FnMended := (mkE_ok tab_ok mixed (AllF.cons ok_w_r8Long (AllF.cons ok_s_R8Small (AllF.cons ok_i_MendTurn (AllF.cons ok_i_LengthOfTurn (AllF.cons ok_w_r8Gap (AllF.cons ok_i_NoTurn (AllF.cons ok_s_R8Any (AllF.cons ok_i_SameNumber (AllF.cons ok_i_SameTurn AllF.nil))))))))) AllX.nil)
theorem ev_w_FnMended (code : (List Int)) (more : (List Int)) : evalF E_w_FnMended noL Try.f12 [.ro false (.slice (.int .u8)), .ro false (.slice (.int .u8))] (.one false .bool) (code, more, ()) = g_w_FnMended code more := by kernel_rfl
end
end Go.Fw.F
