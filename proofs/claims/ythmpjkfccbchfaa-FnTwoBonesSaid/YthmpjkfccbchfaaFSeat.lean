/- The functions of the translation compute what the plain functions compute. No condition. -/
import Derived.Test.YthmpjkfccbchfaaFPure
import Derived.Test.YthmpjkfccbchfaaProg
import Derived.KernelRfl
set_option linter.unusedVariables false
namespace Go.Fw.F
open Go.Fw Go.Proofs Go.RowKit
noncomputable section
def tab : List (Nat × TI) := [
  (2, { und := .int .i64, size := 1, bytes := 8, zero := [.int .i64 0], ty := (.int .i64) }),
  (3, { und := .int .i64, size := 1, bytes := 8, zero := [.int .i64 0], ty := (.int .i64) }),
  (4, { und := .bool, size := 1, bytes := 1, zero := [.bool false], ty := .bool }),
  (5, { und := .int .u8, size := 1, bytes := 1, zero := [.int .u8 0], ty := (.int .u8) }),
  (22, { und := .slice 5, size := 1, bytes := 24, zero := [.sl .nil], ty := (.slice (.int .u8)) }),
  (24, { und := .flt .f32, size := 1, bytes := 4, zero := [.flt .f32 0], ty := (.flt .f32) }),
  (28, { und := .flt .f64, size := 1, bytes := 8, zero := [.flt .f64 0], ty := (.flt .f64) }),
  (40, { und := .struct [(0, 24), (1, 24), (2, 24)], size := 3, bytes := 12, zero := [.flt .f32 0, .flt .f32 0, .flt .f32 0], ty := tVec }),
  (43, { und := .slice 24, size := 1, bytes := 24, zero := [.sl .nil], ty := (.slice (.flt .f32)) }),
  (76, { und := .other, size := 1, bytes := 8, zero := [.pnil], ty := .unit }),
  (97, { und := .int .u64, size := 1, bytes := 8, zero := [.int .u64 0], ty := (.int .u64) }),
  (99, { und := .struct [(0, 22), (1, 3), (2, 97)], size := 3, bytes := 40, zero := [.sl .nil, .int .i64 0, .int .u64 0], ty := (.pair (.slice (.int .u8)) (.pair (.int .i64) (.pair (.int .u64) .unit))) })]
theorem tab_ok : TabOK Try.prog (lookT tab) := tabB_spec (by kernel_rfl)
theorem mixed : Try.prog.follows .mixedOrders = true := by kernel_rfl
def E_w_r8Long : Tabs := (mkE tab [] [])
set_option maxRecDepth 4000 in
theorem ek_w_r8Long : EnvOK Try.prog E_w_r8Long := (mkE_ok tab_ok mixed AllF.nil AllX.nil)
theorem ev_w_r8Long (code : (List Int)) (more : (List Int)) : evalF E_w_r8Long noL Try.f26 [.ro false (.slice (.int .u8)), .ro false (.slice (.int .u8))] (.one false .bool) (code, more, ()) = g_w_r8Long code more := by kernel_rfl
def m_w_r8Long : FM := { ps := [.ro false (.slice (.int .u8)), .ro false (.slice (.int .u8))], res := .one false .bool, run := fun x => some (t_w_r8Long x.1 x.2.1) }
set_option maxRecDepth 4000 in
theorem ok_w_r8Long : FmOK Try.prog 26 m_w_r8Long := @FmOK.made Try.prog E_w_r8Long ek_w_r8Long 26 Try.f26 noL m_w_r8Long Try.func26 (by kernel_rfl) (Loops.none (by kernel_rfl)) fun ds out _ hr => by obtain ⟨code, more, ⟨⟩⟩ := ds; exact (ev_w_r8Long code more).trans ((q_w_r8Long code more).trans hr)

def E_w_r8At : Tabs := (mkE tab [] [])
set_option maxRecDepth 4000 in
theorem ek_w_r8At : EnvOK Try.prog E_w_r8At := (mkE_ok tab_ok mixed AllF.nil AllX.nil)
theorem ev_w_r8At (code : (List Int)) (k : Int) (n : Int) : evalF E_w_r8At noL Try.f27 [.ro false (.slice (.int .u8)), .ro false (.int .i64), .ro false (.int .i64)] (.one false (.int .i64)) (code, k, n, ()) = g_w_r8At code k n := by kernel_rfl
def m_w_r8At : FM := { ps := [.ro false (.slice (.int .u8)), .ro false (.int .i64), .ro false (.int .i64)], res := .one false (.int .i64), run := fun x => g_w_r8At x.1 x.2.1 x.2.2.1 }
set_option maxRecDepth 4000 in
theorem ok_w_r8At : FmOK Try.prog 27 m_w_r8At := @FmOK.made Try.prog E_w_r8At ek_w_r8At 27 Try.f27 noL m_w_r8At Try.func27 (by kernel_rfl) (Loops.none (by kernel_rfl)) fun ds out _ hr => by obtain ⟨code, k, n, ⟨⟩⟩ := ds; exact (ev_w_r8At code k n).trans hr

def E_s_l00From : Tabs := (mkE tab [] [])
set_option maxRecDepth 4000 in
theorem ek_s_l00From : EnvOK Try.prog E_s_l00From := (mkE_ok tab_ok mixed AllF.nil AllX.nil)
theorem ev_s_l00From (code : (List Int)) : evalX E_s_l00From noL Try.f67 [.ro false (.slice (.int .u8))] (.box tSrc) (code, ()) = g_s_l00From code := by kernel_rfl
def m_s_l00From : FX := { ps := [.ro false (.slice (.int .u8))], res := .box tSrc, run := fun x => some (t_s_l00From x.1) }
set_option maxRecDepth 4000 in
theorem ok_s_l00From : FxOK Try.prog 67 m_s_l00From := @FxOK.made Try.prog E_s_l00From ek_s_l00From 67 Try.f67 noL m_s_l00From Try.func67 (by kernel_rfl) (Loops.none (by kernel_rfl)) fun ds out _ hr => by obtain ⟨code, ⟨⟩⟩ := ds; exact (ev_s_l00From code).trans ((q_s_l00From code).trans hr)

def E_s_l00Src_next : Tabs := (mkE tab [] [])
set_option maxRecDepth 4000 in
theorem ek_s_l00Src_next : EnvOK Try.prog E_s_l00Src_next := (mkE_ok tab_ok mixed AllF.nil AllX.nil)
theorem ev_s_l00Src_next (s : dSrc) : evalX E_s_l00Src_next noL Try.f109 [.optr tSrc] (.one false (.int .i64)) (s, ()) = g_s_l00Src_next s := by kernel_rfl
def m_s_l00Src_next : FX := { ps := [.optr tSrc], res := .one false (.int .i64), run := fun x => g_s_l00Src_next x.1 }
set_option maxRecDepth 4000 in
theorem ok_s_l00Src_next : FxOK Try.prog 109 m_s_l00Src_next := @FxOK.made Try.prog E_s_l00Src_next ek_s_l00Src_next 109 Try.f109 noL m_s_l00Src_next Try.func109 (by kernel_rfl) (Loops.none (by kernel_rfl)) fun ds out _ hr => by obtain ⟨s, ⟨⟩⟩ := ds; exact (ev_s_l00Src_next s).trans hr

def E_s_l00Src_pick : Tabs := (mkE tab [] [(109, m_s_l00Src_next)])
set_option maxRecDepth 4000 in
theorem ek_s_l00Src_pick : EnvOK Try.prog E_s_l00Src_pick := (mkE_ok tab_ok mixed AllF.nil (AllX.cons ok_s_l00Src_next AllX.nil))
theorem ev_s_l00Src_pick (s : dSrc) (n : Int) : evalX E_s_l00Src_pick noL Try.f69 [.optr tSrc, .ro false (.int .i64)] (.one false (.int .i64)) (s, n, ()) = g_s_l00Src_pick s n := by kernel_rfl
def m_s_l00Src_pick : FX := { ps := [.optr tSrc, .ro false (.int .i64)], res := .one false (.int .i64), run := fun x => g_s_l00Src_pick x.1 x.2.1 }
set_option maxRecDepth 4000 in
theorem ok_s_l00Src_pick : FxOK Try.prog 69 m_s_l00Src_pick := @FxOK.made Try.prog E_s_l00Src_pick ek_s_l00Src_pick 69 Try.f69 noL m_s_l00Src_pick Try.func69 (by kernel_rfl) (Loops.none (by kernel_rfl)) fun ds out _ hr => by obtain ⟨s, n, ⟨⟩⟩ := ds; exact (ev_s_l00Src_pick s n).trans hr

def E_s_l01DrawSmall : Tabs := (mkE tab [] [(69, m_s_l00Src_pick)])
set_option maxRecDepth 4000 in
theorem ek_s_l01DrawSmall : EnvOK Try.prog E_s_l01DrawSmall := (mkE_ok tab_ok mixed AllF.nil (AllX.cons ok_s_l00Src_pick AllX.nil))
theorem ev_s_l01DrawSmall (s : dSrc) : evalX E_s_l01DrawSmall noL Try.f84 [.optr tSrc] (.one false (.flt .f32)) (s, ()) = g_s_l01DrawSmall s := by kernel_rfl
def m_s_l01DrawSmall : FX := { ps := [.optr tSrc], res := .one false (.flt .f32), run := fun x => g_s_l01DrawSmall x.1 }
set_option maxRecDepth 4000 in
theorem ok_s_l01DrawSmall : FxOK Try.prog 84 m_s_l01DrawSmall := @FxOK.made Try.prog E_s_l01DrawSmall ek_s_l01DrawSmall 84 Try.f84 noL m_s_l01DrawSmall Try.func84 (by kernel_rfl) (Loops.none (by kernel_rfl)) fun ds out _ hr => by obtain ⟨s, ⟨⟩⟩ := ds; exact (ev_s_l01DrawSmall s).trans hr

def E_s_R8Small : Tabs := (mkE tab [] [(67, m_s_l00From), (84, m_s_l01DrawSmall)])
set_option maxRecDepth 4000 in
theorem ek_s_R8Small : EnvOK Try.prog E_s_R8Small := (mkE_ok tab_ok mixed AllF.nil (AllX.cons ok_s_l00From (AllX.cons ok_s_l01DrawSmall AllX.nil)))
theorem ev_s_R8Small (code : (List Int)) : evalF E_s_R8Small noL Try.f30 [.ro false (.slice (.int .u8))] (.one true tVec) (code, ()) = g_s_R8Small code := by kernel_rfl
def m_s_R8Small : FM := { ps := [.ro false (.slice (.int .u8))], res := .one true tVec, run := fun x => g_s_R8Small x.1 }
set_option maxRecDepth 4000 in
theorem ok_s_R8Small : FmOK Try.prog 30 m_s_R8Small := @FmOK.made Try.prog E_s_R8Small ek_s_R8Small 30 Try.f30 noL m_s_R8Small Try.func30 (by kernel_rfl) (Loops.none (by kernel_rfl)) fun ds out _ hr => by obtain ⟨code, ⟨⟩⟩ := ds; exact (ev_s_R8Small code).trans hr

def E_i_InnerOf : Tabs := (mkE tab [] [])
set_option maxRecDepth 4000 in
theorem ek_i_InnerOf : EnvOK Try.prog E_i_InnerOf := (mkE_ok tab_ok mixed AllF.nil AllX.nil)
theorem ev_i_InnerOf (a : dVec) (b : dVec) : evalF E_i_InnerOf noL Try.f64 [.ro true tVec, .ro true tVec] (.one false (.flt .f32)) (a, b, ()) = g_i_InnerOf a b := by kernel_rfl
def m_i_InnerOf : FM := { ps := [.ro true tVec, .ro true tVec], res := .one false (.flt .f32), run := fun x => some (t_i_InnerOf x.1 x.2.1) }
set_option maxRecDepth 4000 in
theorem ok_i_InnerOf : FmOK Try.prog 64 m_i_InnerOf := @FmOK.made Try.prog E_i_InnerOf ek_i_InnerOf 64 Try.f64 noL m_i_InnerOf Try.func64 (by kernel_rfl) (Loops.none (by kernel_rfl)) fun ds out _ hr => by obtain ⟨a, b, ⟨⟩⟩ := ds; exact (ev_i_InnerOf a b).trans ((q_i_InnerOf a b).trans hr)

set_option maxRecDepth 4000 in
theorem ok_mathsqrt : FmOK Try.prog 117 m_mathsqrt := FmOK.sqrt Try.func117 (by kernel_rfl) rfl (by kernel_rfl) (by kernel_rfl)

def E_math_Sqrt : Tabs := (mkE tab [(117, m_mathsqrt)] [])
set_option maxRecDepth 4000 in
theorem ek_math_Sqrt : EnvOK Try.prog E_math_Sqrt := (mkE_ok tab_ok mixed (AllF.cons ok_mathsqrt AllF.nil) AllX.nil)
theorem ev_math_Sqrt (xx : Nat) : evalF E_math_Sqrt noL Try.f114 [.ro false (.flt .f64)] (.one false (.flt .f64)) (xx, ()) = g_math_Sqrt xx := by kernel_rfl
def m_math_Sqrt : FM := { ps := [.ro false (.flt .f64)], res := .one false (.flt .f64), run := fun x => some (t_math_Sqrt x.1) }
set_option maxRecDepth 4000 in
theorem ok_math_Sqrt : FmOK Try.prog 114 m_math_Sqrt := @FmOK.made Try.prog E_math_Sqrt ek_math_Sqrt 114 Try.f114 noL m_math_Sqrt Try.func114 (by kernel_rfl) (Loops.none (by kernel_rfl)) fun ds out _ hr => by obtain ⟨xx, ⟨⟩⟩ := ds; exact (ev_math_Sqrt xx).trans ((q_math_Sqrt xx).trans hr)

def E_i_RootNumber : Tabs := (mkE tab [(114, m_math_Sqrt)] [])
set_option maxRecDepth 4000 in
theorem ek_i_RootNumber : EnvOK Try.prog E_i_RootNumber := (mkE_ok tab_ok mixed (AllF.cons ok_math_Sqrt AllF.nil) AllX.nil)
theorem ev_i_RootNumber (xx : Nat) : evalF E_i_RootNumber noL Try.f88 [.ro false (.flt .f32)] (.one false (.flt .f32)) (xx, ()) = g_i_RootNumber xx := by kernel_rfl
def m_i_RootNumber : FM := { ps := [.ro false (.flt .f32)], res := .one false (.flt .f32), run := fun x => g_i_RootNumber x.1 }
set_option maxRecDepth 4000 in
theorem ok_i_RootNumber : FmOK Try.prog 88 m_i_RootNumber := @FmOK.made Try.prog E_i_RootNumber ek_i_RootNumber 88 Try.f88 noL m_i_RootNumber Try.func88 (by kernel_rfl) (Loops.none (by kernel_rfl)) fun ds out _ hr => by obtain ⟨xx, ⟨⟩⟩ := ds; exact (ev_i_RootNumber xx).trans hr

def E_i_LongOf : Tabs := (mkE tab [(64, m_i_InnerOf), (88, m_i_RootNumber)] [])
set_option maxRecDepth 4000 in
theorem ek_i_LongOf : EnvOK Try.prog E_i_LongOf := (mkE_ok tab_ok mixed (AllF.cons ok_i_InnerOf (AllF.cons ok_i_RootNumber AllF.nil)) AllX.nil)
theorem ev_i_LongOf (v : dVec) : evalF E_i_LongOf noL Try.f39 [.ro true tVec] (.one false (.flt .f32)) (v, ()) = g_i_LongOf v := by kernel_rfl
def m_i_LongOf : FM := { ps := [.ro true tVec], res := .one false (.flt .f32), run := fun x => g_i_LongOf x.1 }
set_option maxRecDepth 4000 in
theorem ok_i_LongOf : FmOK Try.prog 39 m_i_LongOf := @FmOK.made Try.prog E_i_LongOf ek_i_LongOf 39 Try.f39 noL m_i_LongOf Try.func39 (by kernel_rfl) (Loops.none (by kernel_rfl)) fun ds out _ hr => by obtain ⟨v, ⟨⟩⟩ := ds; exact (ev_i_LongOf v).trans hr

def E_i_IsFinite : Tabs := (mkE tab [] [])
set_option maxRecDepth 4000 in
theorem ek_i_IsFinite : EnvOK Try.prog E_i_IsFinite := (mkE_ok tab_ok mixed AllF.nil AllX.nil)
theorem ev_i_IsFinite (xx : Nat) : evalF E_i_IsFinite noL Try.f23 [.ro false (.flt .f32)] (.one false .bool) (xx, ()) = g_i_IsFinite xx := by kernel_rfl
def m_i_IsFinite : FM := { ps := [.ro false (.flt .f32)], res := .one false .bool, run := fun x => some (t_i_IsFinite x.1) }
set_option maxRecDepth 4000 in
theorem ok_i_IsFinite : FmOK Try.prog 23 m_i_IsFinite := @FmOK.made Try.prog E_i_IsFinite ek_i_IsFinite 23 Try.f23 noL m_i_IsFinite Try.func23 (by kernel_rfl) (Loops.none (by kernel_rfl)) fun ds out _ hr => by obtain ⟨xx, ⟨⟩⟩ := ds; exact (ev_i_IsFinite xx).trans ((q_i_IsFinite xx).trans hr)

def E_i_isPositive : Tabs := (mkE tab [(23, m_i_IsFinite)] [])
set_option maxRecDepth 4000 in
theorem ek_i_isPositive : EnvOK Try.prog E_i_isPositive := (mkE_ok tab_ok mixed (AllF.cons ok_i_IsFinite AllF.nil) AllX.nil)
theorem ev_i_isPositive (xx : Nat) : evalF E_i_isPositive noL Try.f99 [.ro false (.flt .f32)] (.one false .bool) (xx, ()) = g_i_isPositive xx := by kernel_rfl
def m_i_isPositive : FM := { ps := [.ro false (.flt .f32)], res := .one false .bool, run := fun x => some (t_i_isPositive x.1) }
set_option maxRecDepth 4000 in
theorem ok_i_isPositive : FmOK Try.prog 99 m_i_isPositive := @FmOK.made Try.prog E_i_isPositive ek_i_isPositive 99 Try.f99 noL m_i_isPositive Try.func99 (by kernel_rfl) (Loops.none (by kernel_rfl)) fun ds out _ hr => by obtain ⟨xx, ⟨⟩⟩ := ds; exact (ev_i_isPositive xx).trans ((q_i_isPositive xx).trans hr)

def E_i_isLength : Tabs := (mkE tab [(23, m_i_IsFinite)] [])
set_option maxRecDepth 4000 in
theorem ek_i_isLength : EnvOK Try.prog E_i_isLength := (mkE_ok tab_ok mixed (AllF.cons ok_i_IsFinite AllF.nil) AllX.nil)
theorem ev_i_isLength (n : Nat) : evalF E_i_isLength noL Try.f93 [.ro false (.flt .f32)] (.one false .bool) (n, ()) = g_i_isLength n := by kernel_rfl
def m_i_isLength : FM := { ps := [.ro false (.flt .f32)], res := .one false .bool, run := fun x => some (t_i_isLength x.1) }
set_option maxRecDepth 4000 in
theorem ok_i_isLength : FmOK Try.prog 93 m_i_isLength := @FmOK.made Try.prog E_i_isLength ek_i_isLength 93 Try.f93 noL m_i_isLength Try.func93 (by kernel_rfl) (Loops.none (by kernel_rfl)) fun ds out _ hr => by obtain ⟨n, ⟨⟩⟩ := ds; exact (ev_i_isLength n).trans ((q_i_isLength n).trans hr)

def E_i_Vector_over : Tabs := (mkE tab [] [])
set_option maxRecDepth 4000 in
theorem ek_i_Vector_over : EnvOK Try.prog E_i_Vector_over := (mkE_ok tab_ok mixed AllF.nil AllX.nil)
theorem ev_i_Vector_over (v : dVec) (n : Nat) : evalF E_i_Vector_over noL Try.f100 [.ro true tVec, .ro false (.flt .f32)] (.one true tVec) (v, n, ()) = g_i_Vector_over v n := by kernel_rfl
def m_i_Vector_over : FM := { ps := [.ro true tVec, .ro false (.flt .f32)], res := .one true tVec, run := fun x => some (t_i_Vector_over x.1 x.2.1) }
set_option maxRecDepth 4000 in
theorem ok_i_Vector_over : FmOK Try.prog 100 m_i_Vector_over := @FmOK.made Try.prog E_i_Vector_over ek_i_Vector_over 100 Try.f100 noL m_i_Vector_over Try.func100 (by kernel_rfl) (Loops.none (by kernel_rfl)) fun ds out _ hr => by obtain ⟨v, n, ⟨⟩⟩ := ds; exact (ev_i_Vector_over v n).trans ((q_i_Vector_over v n).trans hr)

def E_i_ScaleVector : Tabs := (mkE tab [] [])
set_option maxRecDepth 4000 in
theorem ek_i_ScaleVector : EnvOK Try.prog E_i_ScaleVector := (mkE_ok tab_ok mixed AllF.nil AllX.nil)
theorem ev_i_ScaleVector (v : dVec) (byx : Nat) : evalF E_i_ScaleVector noL Try.f43 [.ro true tVec, .ro false (.flt .f32)] (.one true tVec) (v, byx, ()) = g_i_ScaleVector v byx := by kernel_rfl
def m_i_ScaleVector : FM := { ps := [.ro true tVec, .ro false (.flt .f32)], res := .one true tVec, run := fun x => some (t_i_ScaleVector x.1 x.2.1) }
set_option maxRecDepth 4000 in
theorem ok_i_ScaleVector : FmOK Try.prog 43 m_i_ScaleVector := @FmOK.made Try.prog E_i_ScaleVector ek_i_ScaleVector 43 Try.f43 noL m_i_ScaleVector Try.func43 (by kernel_rfl) (Loops.none (by kernel_rfl)) fun ds out _ hr => by obtain ⟨v, byx, ⟨⟩⟩ := ds; exact (ev_i_ScaleVector v byx).trans ((q_i_ScaleVector v byx).trans hr)

def E_i_LessVectors : Tabs := (mkE tab [] [])
set_option maxRecDepth 4000 in
theorem ek_i_LessVectors : EnvOK Try.prog E_i_LessVectors := (mkE_ok tab_ok mixed AllF.nil AllX.nil)
theorem ev_i_LessVectors (a : dVec) (b : dVec) : evalF E_i_LessVectors noL Try.f45 [.ro true tVec, .ro true tVec] (.one true tVec) (a, b, ()) = g_i_LessVectors a b := by kernel_rfl
def m_i_LessVectors : FM := { ps := [.ro true tVec, .ro true tVec], res := .one true tVec, run := fun x => some (t_i_LessVectors x.1 x.2.1) }
set_option maxRecDepth 4000 in
theorem ok_i_LessVectors : FmOK Try.prog 45 m_i_LessVectors := @FmOK.made Try.prog E_i_LessVectors ek_i_LessVectors 45 Try.f45 noL m_i_LessVectors Try.func45 (by kernel_rfl) (Loops.none (by kernel_rfl)) fun ds out _ hr => by obtain ⟨a, b, ⟨⟩⟩ := ds; exact (ev_i_LessVectors a b).trans ((q_i_LessVectors a b).trans hr)

def E_i_AddVectors : Tabs := (mkE tab [] [])
set_option maxRecDepth 4000 in
theorem ek_i_AddVectors : EnvOK Try.prog E_i_AddVectors := (mkE_ok tab_ok mixed AllF.nil AllX.nil)
theorem ev_i_AddVectors (a : dVec) (b : dVec) : evalF E_i_AddVectors noL Try.f91 [.ro true tVec, .ro true tVec] (.one true tVec) (a, b, ()) = g_i_AddVectors a b := by kernel_rfl
def m_i_AddVectors : FM := { ps := [.ro true tVec, .ro true tVec], res := .one true tVec, run := fun x => some (t_i_AddVectors x.1 x.2.1) }
set_option maxRecDepth 4000 in
theorem ok_i_AddVectors : FmOK Try.prog 91 m_i_AddVectors := @FmOK.made Try.prog E_i_AddVectors ek_i_AddVectors 91 Try.f91 noL m_i_AddVectors Try.func91 (by kernel_rfl) (Loops.none (by kernel_rfl)) fun ds out _ hr => by obtain ⟨a, b, ⟨⟩⟩ := ds; exact (ev_i_AddVectors a b).trans ((q_i_AddVectors a b).trans hr)

def E_i_TwoBones : Tabs := (mkE tab [(39, m_i_LongOf), (99, m_i_isPositive), (93, m_i_isLength), (100, m_i_Vector_over), (88, m_i_RootNumber), (64, m_i_InnerOf), (43, m_i_ScaleVector), (45, m_i_LessVectors), (91, m_i_AddVectors)] [])
set_option maxRecDepth 4000 in
theorem ek_i_TwoBones : EnvOK Try.prog E_i_TwoBones := (mkE_ok tab_ok mixed (AllF.cons ok_i_LongOf (AllF.cons ok_i_isPositive (AllF.cons ok_i_isLength (AllF.cons ok_i_Vector_over (AllF.cons ok_i_RootNumber (AllF.cons ok_i_InnerOf (AllF.cons ok_i_ScaleVector (AllF.cons ok_i_LessVectors (AllF.cons ok_i_AddVectors AllF.nil))))))))) AllX.nil)
theorem ev_i_TwoBones (a : Nat) (b : Nat) (goal : dVec) (pole : dVec) : evalF E_i_TwoBones noL Try.f60 [.ro false (.flt .f32), .ro false (.flt .f32), .ro true tVec, .ro true tVec] (.tup [(true, tVec), (true, tVec), (false, .bool)]) (a, b, goal, pole, ()) = g_i_TwoBones a b goal pole := by kernel_rfl
def m_i_TwoBones : FM := { ps := [.ro false (.flt .f32), .ro false (.flt .f32), .ro true tVec, .ro true tVec], res := .tup [(true, tVec), (true, tVec), (false, .bool)], run := fun x => g_i_TwoBones x.1 x.2.1 x.2.2.1 x.2.2.2.1 }
set_option maxRecDepth 4000 in
theorem ok_i_TwoBones : FmOK Try.prog 60 m_i_TwoBones := @FmOK.made Try.prog E_i_TwoBones ek_i_TwoBones 60 Try.f60 noL m_i_TwoBones Try.func60 (by kernel_rfl) (Loops.none (by kernel_rfl)) fun ds out _ hr => by obtain ⟨a, b, goal, pole, ⟨⟩⟩ := ds; exact (ev_i_TwoBones a b goal pole).trans hr

def E_s_l01Inner : Tabs := (mkE tab [] [])
set_option maxRecDepth 4000 in
theorem ek_s_l01Inner : EnvOK Try.prog E_s_l01Inner := (mkE_ok tab_ok mixed AllF.nil AllX.nil)
theorem ev_s_l01Inner (a : dVec) (b : dVec) : evalF E_s_l01Inner noL Try.f106 [.ro true tVec, .ro true tVec] (.one false (.flt .f32)) (a, b, ()) = g_s_l01Inner a b := by kernel_rfl
def m_s_l01Inner : FM := { ps := [.ro true tVec, .ro true tVec], res := .one false (.flt .f32), run := fun x => some (t_s_l01Inner x.1 x.2.1) }
set_option maxRecDepth 4000 in
theorem ok_s_l01Inner : FmOK Try.prog 106 m_s_l01Inner := @FmOK.made Try.prog E_s_l01Inner ek_s_l01Inner 106 Try.f106 noL m_s_l01Inner Try.func106 (by kernel_rfl) (Loops.none (by kernel_rfl)) fun ds out _ hr => by obtain ⟨a, b, ⟨⟩⟩ := ds; exact (ev_s_l01Inner a b).trans ((q_s_l01Inner a b).trans hr)

def E_s_l01Narrow : Tabs := (mkE tab [] [])
set_option maxRecDepth 4000 in
theorem ek_s_l01Narrow : EnvOK Try.prog E_s_l01Narrow := (mkE_ok tab_ok mixed AllF.nil AllX.nil)
theorem ev_s_l01Narrow (xx : Nat) : evalF E_s_l01Narrow noL Try.f116 [.ro false (.flt .f64)] (.one false (.flt .f32)) (xx, ()) = g_s_l01Narrow xx := by kernel_rfl
def m_s_l01Narrow : FM := { ps := [.ro false (.flt .f64)], res := .one false (.flt .f32), run := fun x => g_s_l01Narrow x.1 }
set_option maxRecDepth 4000 in
theorem ok_s_l01Narrow : FmOK Try.prog 116 m_s_l01Narrow := @FmOK.made Try.prog E_s_l01Narrow ek_s_l01Narrow 116 Try.f116 noL m_s_l01Narrow Try.func116 (by kernel_rfl) (Loops.none (by kernel_rfl)) fun ds out _ hr => by obtain ⟨xx, ⟨⟩⟩ := ds; exact (ev_s_l01Narrow xx).trans hr

def E_s_l01Sqrt : Tabs := (mkE tab [(114, m_math_Sqrt), (116, m_s_l01Narrow)] [])
set_option maxRecDepth 4000 in
theorem ek_s_l01Sqrt : EnvOK Try.prog E_s_l01Sqrt := (mkE_ok tab_ok mixed (AllF.cons ok_math_Sqrt (AllF.cons ok_s_l01Narrow AllF.nil)) AllX.nil)
theorem ev_s_l01Sqrt (xx : Nat) : evalF E_s_l01Sqrt noL Try.f103 [.ro false (.flt .f32)] (.one false (.flt .f32)) (xx, ()) = g_s_l01Sqrt xx := by kernel_rfl
def m_s_l01Sqrt : FM := { ps := [.ro false (.flt .f32)], res := .one false (.flt .f32), run := fun x => g_s_l01Sqrt x.1 }
set_option maxRecDepth 4000 in
theorem ok_s_l01Sqrt : FmOK Try.prog 103 m_s_l01Sqrt := @FmOK.made Try.prog E_s_l01Sqrt ek_s_l01Sqrt 103 Try.f103 noL m_s_l01Sqrt Try.func103 (by kernel_rfl) (Loops.none (by kernel_rfl)) fun ds out _ hr => by obtain ⟨xx, ⟨⟩⟩ := ds; exact (ev_s_l01Sqrt xx).trans hr

def E_s_l01Long : Tabs := (mkE tab [(106, m_s_l01Inner), (103, m_s_l01Sqrt)] [])
set_option maxRecDepth 4000 in
theorem ek_s_l01Long : EnvOK Try.prog E_s_l01Long := (mkE_ok tab_ok mixed (AllF.cons ok_s_l01Inner (AllF.cons ok_s_l01Sqrt AllF.nil)) AllX.nil)
theorem ev_s_l01Long (v : dVec) : evalF E_s_l01Long noL Try.f101 [.ro true tVec] (.one false (.flt .f32)) (v, ()) = g_s_l01Long v := by kernel_rfl
def m_s_l01Long : FM := { ps := [.ro true tVec], res := .one false (.flt .f32), run := fun x => g_s_l01Long x.1 }
set_option maxRecDepth 4000 in
theorem ok_s_l01Long : FmOK Try.prog 101 m_s_l01Long := @FmOK.made Try.prog E_s_l01Long ek_s_l01Long 101 Try.f101 noL m_s_l01Long Try.func101 (by kernel_rfl) (Loops.none (by kernel_rfl)) fun ds out _ hr => by obtain ⟨v, ⟨⟩⟩ := ds; exact (ev_s_l01Long v).trans hr

def E_s_l01Finite : Tabs := (mkE tab [] [])
set_option maxRecDepth 4000 in
theorem ek_s_l01Finite : EnvOK Try.prog E_s_l01Finite := (mkE_ok tab_ok mixed AllF.nil AllX.nil)
theorem ev_s_l01Finite (xx : Nat) : evalF E_s_l01Finite noL Try.f74 [.ro false (.flt .f32)] (.one false .bool) (xx, ()) = g_s_l01Finite xx := by kernel_rfl
def m_s_l01Finite : FM := { ps := [.ro false (.flt .f32)], res := .one false .bool, run := fun x => some (t_s_l01Finite x.1) }
set_option maxRecDepth 4000 in
theorem ok_s_l01Finite : FmOK Try.prog 74 m_s_l01Finite := @FmOK.made Try.prog E_s_l01Finite ek_s_l01Finite 74 Try.f74 noL m_s_l01Finite Try.func74 (by kernel_rfl) (Loops.none (by kernel_rfl)) fun ds out _ hr => by obtain ⟨xx, ⟨⟩⟩ := ds; exact (ev_s_l01Finite xx).trans ((q_s_l01Finite xx).trans hr)

def E_s_l04Length : Tabs := (mkE tab [(74, m_s_l01Finite)] [])
set_option maxRecDepth 4000 in
theorem ek_s_l04Length : EnvOK Try.prog E_s_l04Length := (mkE_ok tab_ok mixed (AllF.cons ok_s_l01Finite AllF.nil) AllX.nil)
theorem ev_s_l04Length (xx : Nat) : evalF E_s_l04Length noL Try.f102 [.ro false (.flt .f32)] (.one false .bool) (xx, ()) = g_s_l04Length xx := by kernel_rfl
def m_s_l04Length : FM := { ps := [.ro false (.flt .f32)], res := .one false .bool, run := fun x => some (t_s_l04Length x.1) }
set_option maxRecDepth 4000 in
theorem ok_s_l04Length : FmOK Try.prog 102 m_s_l04Length := @FmOK.made Try.prog E_s_l04Length ek_s_l04Length 102 Try.f102 noL m_s_l04Length Try.func102 (by kernel_rfl) (Loops.none (by kernel_rfl)) fun ds out _ hr => by obtain ⟨xx, ⟨⟩⟩ := ds; exact (ev_s_l04Length xx).trans ((q_s_l04Length xx).trans hr)

def E_s_l01Scale : Tabs := (mkE tab [] [])
set_option maxRecDepth 4000 in
theorem ek_s_l01Scale : EnvOK Try.prog E_s_l01Scale := (mkE_ok tab_ok mixed AllF.nil AllX.nil)
theorem ev_s_l01Scale (v : dVec) (byx : Nat) : evalF E_s_l01Scale noL Try.f105 [.ro true tVec, .ro false (.flt .f32)] (.one true tVec) (v, byx, ()) = g_s_l01Scale v byx := by kernel_rfl
def m_s_l01Scale : FM := { ps := [.ro true tVec, .ro false (.flt .f32)], res := .one true tVec, run := fun x => some (t_s_l01Scale x.1 x.2.1) }
set_option maxRecDepth 4000 in
theorem ok_s_l01Scale : FmOK Try.prog 105 m_s_l01Scale := @FmOK.made Try.prog E_s_l01Scale ek_s_l01Scale 105 Try.f105 noL m_s_l01Scale Try.func105 (by kernel_rfl) (Loops.none (by kernel_rfl)) fun ds out _ hr => by obtain ⟨v, byx, ⟨⟩⟩ := ds; exact (ev_s_l01Scale v byx).trans ((q_s_l01Scale v byx).trans hr)

def E_s_l01Less : Tabs := (mkE tab [] [])
set_option maxRecDepth 4000 in
theorem ek_s_l01Less : EnvOK Try.prog E_s_l01Less := (mkE_ok tab_ok mixed AllF.nil AllX.nil)
theorem ev_s_l01Less (a : dVec) (b : dVec) : evalF E_s_l01Less noL Try.f104 [.ro true tVec, .ro true tVec] (.one true tVec) (a, b, ()) = g_s_l01Less a b := by kernel_rfl
def m_s_l01Less : FM := { ps := [.ro true tVec, .ro true tVec], res := .one true tVec, run := fun x => some (t_s_l01Less x.1 x.2.1) }
set_option maxRecDepth 4000 in
theorem ok_s_l01Less : FmOK Try.prog 104 m_s_l01Less := @FmOK.made Try.prog E_s_l01Less ek_s_l01Less 104 Try.f104 noL m_s_l01Less Try.func104 (by kernel_rfl) (Loops.none (by kernel_rfl)) fun ds out _ hr => by obtain ⟨a, b, ⟨⟩⟩ := ds; exact (ev_s_l01Less a b).trans ((q_s_l01Less a b).trans hr)

def E_s_l01Add : Tabs := (mkE tab [] [])
set_option maxRecDepth 4000 in
theorem ek_s_l01Add : EnvOK Try.prog E_s_l01Add := (mkE_ok tab_ok mixed AllF.nil AllX.nil)
theorem ev_s_l01Add (a : dVec) (b : dVec) : evalF E_s_l01Add noL Try.f107 [.ro true tVec, .ro true tVec] (.one true tVec) (a, b, ()) = g_s_l01Add a b := by kernel_rfl
def m_s_l01Add : FM := { ps := [.ro true tVec, .ro true tVec], res := .one true tVec, run := fun x => some (t_s_l01Add x.1 x.2.1) }
set_option maxRecDepth 4000 in
theorem ok_s_l01Add : FmOK Try.prog 107 m_s_l01Add := @FmOK.made Try.prog E_s_l01Add ek_s_l01Add 107 Try.f107 noL m_s_l01Add Try.func107 (by kernel_rfl) (Loops.none (by kernel_rfl)) fun ds out _ hr => by obtain ⟨a, b, ⟨⟩⟩ := ds; exact (ev_s_l01Add a b).trans ((q_s_l01Add a b).trans hr)

def E_s_TwoBones : Tabs := (mkE tab [(101, m_s_l01Long), (102, m_s_l04Length), (103, m_s_l01Sqrt), (106, m_s_l01Inner), (105, m_s_l01Scale), (104, m_s_l01Less), (107, m_s_l01Add)] [])
set_option maxRecDepth 4000 in
theorem ek_s_TwoBones : EnvOK Try.prog E_s_TwoBones := (mkE_ok tab_ok mixed (AllF.cons ok_s_l01Long (AllF.cons ok_s_l04Length (AllF.cons ok_s_l01Sqrt (AllF.cons ok_s_l01Inner (AllF.cons ok_s_l01Scale (AllF.cons ok_s_l01Less (AllF.cons ok_s_l01Add AllF.nil))))))) AllX.nil)
theorem ev_s_TwoBones (a : Nat) (b : Nat) (goal : dVec) (pole : dVec) : evalF E_s_TwoBones noL Try.f61 [.ro false (.flt .f32), .ro false (.flt .f32), .ro true tVec, .ro true tVec] (.tup [(true, tVec), (true, tVec), (false, .bool)]) (a, b, goal, pole, ()) = g_s_TwoBones a b goal pole := by kernel_rfl
def m_s_TwoBones : FM := { ps := [.ro false (.flt .f32), .ro false (.flt .f32), .ro true tVec, .ro true tVec], res := .tup [(true, tVec), (true, tVec), (false, .bool)], run := fun x => g_s_TwoBones x.1 x.2.1 x.2.2.1 x.2.2.2.1 }
set_option maxRecDepth 4000 in
theorem ok_s_TwoBones : FmOK Try.prog 61 m_s_TwoBones := @FmOK.made Try.prog E_s_TwoBones ek_s_TwoBones 61 Try.f61 noL m_s_TwoBones Try.func61 (by kernel_rfl) (Loops.none (by kernel_rfl)) fun ds out _ hr => by obtain ⟨a, b, goal, pole, ⟨⟩⟩ := ds; exact (ev_s_TwoBones a b goal pole).trans hr

def E_w_r8Along : Tabs := (mkE tab [] [])
set_option maxRecDepth 4000 in
theorem ek_w_r8Along : EnvOK Try.prog E_w_r8Along := (mkE_ok tab_ok mixed AllF.nil AllX.nil)
theorem ev_w_r8Along (a : dVec) (b : dVec) : evalF E_w_r8Along noL Try.f62 [.ro true tVec, .ro true tVec] (.one false .bool) (a, b, ()) = g_w_r8Along a b := by kernel_rfl
def m_w_r8Along : FM := { ps := [.ro true tVec, .ro true tVec], res := .one false .bool, run := fun x => some (t_w_r8Along x.1 x.2.1) }
set_option maxRecDepth 4000 in
theorem ok_w_r8Along : FmOK Try.prog 62 m_w_r8Along := @FmOK.made Try.prog E_w_r8Along ek_w_r8Along 62 Try.f62 noL m_w_r8Along Try.func62 (by kernel_rfl) (Loops.none (by kernel_rfl)) fun ds out _ hr => by obtain ⟨a, b, ⟨⟩⟩ := ds; exact (ev_w_r8Along a b).trans ((q_w_r8Along a b).trans hr)

def E_i_CanReach : Tabs := (mkE tab [(23, m_i_IsFinite)] [])
set_option maxRecDepth 4000 in
theorem ek_i_CanReach : EnvOK Try.prog E_i_CanReach := (mkE_ok tab_ok mixed (AllF.cons ok_i_IsFinite AllF.nil) AllX.nil)
def lm_L_i_CanReach_1 : LM := { mat := [], head := { slots := [(1, .dat false (.flt .f32)), (4, .dat false .bool), (5, .dat false (.flt .f64)), (6, .dat false (.flt .f64)), (23, .dat false (.slice (.flt .f32))), (24, .dat false (.int .i64)), (25, .dat false (.int .i64))], blks := [] }, out := { slots := [(1, .dat false (.flt .f32)), (4, .dat false .bool), (5, .dat false (.flt .f64)), (6, .dat false (.flt .f64))], blks := [] }, ex := 0, rets := true, run := iter L_i_CanReach_1 fuel }
def ll_i_CanReach : List (Nat × LP) := [(5, .lm lm_L_i_CanReach_1)]
theorem rd_L_i_CanReach_1 (rec' : (Nat × Bool × Nat × Nat × (List Nat) × Int × Int × Unit) × (Unit) → Option (Bool × ((Nat × Bool × Nat × Nat × Unit) × (Unit)))) (distance : Nat) (t4 : Bool) (s : Nat) (g : Nat) (t23 : (List Nat)) (t24 : Int) (t25 : Int) : round E_i_CanReach (lookL ll_i_CanReach) lm_L_i_CanReach_1 59 (loopAt Try.f63 0) rec' ((distance, t4, s, g, t23, t24, t25, ()), (())) = L_i_CanReach_1 rec' ((distance, t4, s, g, t23, t24, t25, ()), (())) := by kernel_rfl
theorem lo_i_CanReach : Loops E_i_CanReach (lookL ll_i_CanReach) Try.f63 := Loops.list (by kernel_rfl) (by kernel_rfl) ⟨LoopOK.iter (step := L_i_CanReach_1) (N := fun _ => fuel) (fun rec' x => by obtain ⟨⟨distance, t4, s, g, t23, t24, t25, ⟨⟩⟩, ⟨⟨⟩⟩⟩ := x; exact rd_L_i_CanReach_1 rec' distance t4 s g t23 t24 t25) fun _ => rfl, trivial⟩
theorem ev_i_CanReach (lengths : (List Nat)) (distance : Nat) : evalF E_i_CanReach (lookL ll_i_CanReach) Try.f63 [.ro false (.slice (.flt .f32)), .ro false (.flt .f32)] (.one false .bool) (lengths, distance, ()) = g_i_CanReach lengths distance := by kernel_rfl
def m_i_CanReach : FM := { ps := [.ro false (.slice (.flt .f32)), .ro false (.flt .f32)], res := .one false .bool, run := fun x => g_i_CanReach x.1 x.2.1 }
set_option maxRecDepth 4000 in
theorem ok_i_CanReach : FmOK Try.prog 63 m_i_CanReach := @FmOK.made Try.prog E_i_CanReach ek_i_CanReach 63 Try.f63 (lookL ll_i_CanReach) m_i_CanReach Try.func63 (by kernel_rfl) lo_i_CanReach fun ds out _ hr => by obtain ⟨lengths, distance, ⟨⟩⟩ := ds; exact (ev_i_CanReach lengths distance).trans hr

def E_w_r8Gap : Tabs := (mkE tab [] [])
set_option maxRecDepth 4000 in
theorem ek_w_r8Gap : EnvOK Try.prog E_w_r8Gap := (mkE_ok tab_ok mixed AllF.nil AllX.nil)
theorem ev_w_r8Gap (a : Nat) (b : Nat) : evalF E_w_r8Gap noL Try.f31 [.ro false (.flt .f64), .ro false (.flt .f64)] (.one false (.flt .f64)) (a, b, ()) = g_w_r8Gap a b := by kernel_rfl
def m_w_r8Gap : FM := { ps := [.ro false (.flt .f64), .ro false (.flt .f64)], res := .one false (.flt .f64), run := fun x => some (t_w_r8Gap x.1 x.2.1) }
set_option maxRecDepth 4000 in
theorem ok_w_r8Gap : FmOK Try.prog 31 m_w_r8Gap := @FmOK.made Try.prog E_w_r8Gap ek_w_r8Gap 31 Try.f31 noL m_w_r8Gap Try.func31 (by kernel_rfl) (Loops.none (by kernel_rfl)) fun ds out _ hr => by obtain ⟨a, b, ⟨⟩⟩ := ds; exact (ev_w_r8Gap a b).trans ((q_w_r8Gap a b).trans hr)

def E_w_FnTwoBones : Tabs := (mkE tab [(26, m_w_r8Long), (27, m_w_r8At), (30, m_s_R8Small), (39, m_i_LongOf), (60, m_i_TwoBones), (61, m_s_TwoBones), (62, m_w_r8Along), (63, m_i_CanReach), (31, m_w_r8Gap), (43, m_i_ScaleVector), (45, m_i_LessVectors), (64, m_i_InnerOf)] [])
set_option maxRecDepth 4000 in
theorem ek_w_FnTwoBones : EnvOK Try.prog E_w_FnTwoBones := (mkE_ok tab_ok mixed (AllF.cons ok_w_r8Long (AllF.cons ok_w_r8At (AllF.cons ok_s_R8Small (AllF.cons ok_i_LongOf (AllF.cons ok_i_TwoBones (AllF.cons ok_s_TwoBones (AllF.cons ok_w_r8Along (AllF.cons ok_i_CanReach (AllF.cons ok_w_r8Gap (AllF.cons ok_i_ScaleVector (AllF.cons ok_i_LessVectors (AllF.cons ok_i_InnerOf AllF.nil)))))))))))) AllX.nil)
theorem ev_w_FnTwoBones (code : (List Int)) (more : (List Int)) : evalF E_w_FnTwoBones noL Try.f11 [.ro false (.slice (.int .u8)), .ro false (.slice (.int .u8))] (.one false .bool) (code, more, ()) = g_w_FnTwoBones code more := by kernel_rfl
end
end Go.Fw.F
