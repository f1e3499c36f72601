/- The functions of the translation compute what the plain functions compute. No condition. -/
import Derived.Test.YthmpjkfccbchfaaFPure
import Derived.Test.YthmpjkfccbchfaaProg
import Derived.KernelRfl
set_option linter.unusedVariables false
namespace Go.Fw.F
open Go.Fw Go.Proofs Go.RowKit
noncomputable section
def tab : List (Nat × TI) := [
  (2, { und := .int .i64, size := 1, bytes := 8, zero := [.int .i64 0], ty := (.int .i64) }),
  (3, { und := .int .i64, size := 1, bytes := 8, zero := [.int .i64 0], ty := (.int .i64) }),
  (4, { und := .bool, size := 1, bytes := 1, zero := [.bool false], ty := .bool }),
  (5, { und := .int .u8, size := 1, bytes := 1, zero := [.int .u8 0], ty := (.int .u8) }),
  (22, { und := .slice 5, size := 1, bytes := 24, zero := [.sl .nil], ty := (.slice (.int .u8)) }),
  (24, { und := .flt .f32, size := 1, bytes := 4, zero := [.flt .f32 0], ty := (.flt .f32) }),
  (28, { und := .flt .f64, size := 1, bytes := 8, zero := [.flt .f64 0], ty := (.flt .f64) }),
  (40, { und := .struct [(0, 24), (1, 24), (2, 24)], size := 3, bytes := 12, zero := [.flt .f32 0, .flt .f32 0, .flt .f32 0], ty := tVec }),
  (50, { und := .struct [(0, 24), (1, 24), (2, 24), (3, 24)], size := 4, bytes := 16, zero := [.flt .f32 0, .flt .f32 0, .flt .f32 0, .flt .f32 0], ty := tTurn }),
  (76, { und := .other, size := 1, bytes := 8, zero := [.pnil], ty := .unit }),
  (97, { und := .int .u64, size := 1, bytes := 8, zero := [.int .u64 0], ty := (.int .u64) }),
  (99, { und := .struct [(0, 22), (1, 3), (2, 97)], size := 3, bytes := 40, zero := [.sl .nil, .int .i64 0, .int .u64 0], ty := (.pair (.slice (.int .u8)) (.pair (.int .i64) (.pair (.int .u64) .unit))) })]
theorem tab_ok : TabOK Try.prog (lookT tab) := tabB_spec (by kernel_rfl)
theorem mixed : Try.prog.follows .mixedOrders = true := by kernel_rfl
def E_w_r8Long : Tabs := (mkE tab [] [])
set_option maxRecDepth 4000 in
theorem ek_w_r8Long : EnvOK Try.prog E_w_r8Long := (mkE_ok tab_ok mixed AllF.nil AllX.nil)
theorem ev_w_r8Long (code : (List Int)) (more : (List Int)) : evalF E_w_r8Long noL Try.f26 [.ro false (.slice (.int .u8)), .ro false (.slice (.int .u8))] (.one false .bool) (code, more, ()) = g_w_r8Long code more := by kernel_rfl
def m_w_r8Long : FM := { ps := [.ro false (.slice (.int .u8)), .ro false (.slice (.int .u8))], res := .one false .bool, run := fun x => some (t_w_r8Long x.1 x.2.1) }
set_option maxRecDepth 4000 in
theorem ok_w_r8Long : FmOK Try.prog 26 m_w_r8Long := @FmOK.made Try.prog E_w_r8Long ek_w_r8Long 26 Try.f26 noL m_w_r8Long Try.func26 (by kernel_rfl) (Loops.none (by kernel_rfl)) fun ds out _ hr => by obtain ⟨code, more, ⟨⟩⟩ := ds; exact (ev_w_r8Long code more).trans ((q_w_r8Long code more).trans hr)

def E_s_l00From : Tabs := (mkE tab [] [])
set_option maxRecDepth 4000 in
theorem ek_s_l00From : EnvOK Try.prog E_s_l00From := (mkE_ok tab_ok mixed AllF.nil AllX.nil)
theorem ev_s_l00From (code : (List Int)) : evalX E_s_l00From noL Try.f67 [.ro false (.slice (.int .u8))] (.box tSrc) (code, ()) = g_s_l00From code := by kernel_rfl
def m_s_l00From : FX := { ps := [.ro false (.slice (.int .u8))], res := .box tSrc, run := fun x => some (t_s_l00From x.1) }
set_option maxRecDepth 4000 in
theorem ok_s_l00From : FxOK Try.prog 67 m_s_l00From := @FxOK.made Try.prog E_s_l00From ek_s_l00From 67 Try.f67 noL m_s_l00From Try.func67 (by kernel_rfl) (Loops.none (by kernel_rfl)) fun ds out _ hr => by obtain ⟨code, ⟨⟩⟩ := ds; exact (ev_s_l00From code).trans ((q_s_l00From code).trans hr)

def E_s_l00Src_next : Tabs := (mkE tab [] [])
set_option maxRecDepth 4000 in
theorem ek_s_l00Src_next : EnvOK Try.prog E_s_l00Src_next := (mkE_ok tab_ok mixed AllF.nil AllX.nil)
theorem ev_s_l00Src_next (s : dSrc) : evalX E_s_l00Src_next noL Try.f109 [.optr tSrc] (.one false (.int .i64)) (s, ()) = g_s_l00Src_next s := by kernel_rfl
def m_s_l00Src_next : FX := { ps := [.optr tSrc], res := .one false (.int .i64), run := fun x => g_s_l00Src_next x.1 }
set_option maxRecDepth 4000 in
theorem ok_s_l00Src_next : FxOK Try.prog 109 m_s_l00Src_next := @FxOK.made Try.prog E_s_l00Src_next ek_s_l00Src_next 109 Try.f109 noL m_s_l00Src_next Try.func109 (by kernel_rfl) (Loops.none (by kernel_rfl)) fun ds out _ hr => by obtain ⟨s, ⟨⟩⟩ := ds; exact (ev_s_l00Src_next s).trans hr

def E_s_l00Src_pick : Tabs := (mkE tab [] [(109, m_s_l00Src_next)])
set_option maxRecDepth 4000 in
theorem ek_s_l00Src_pick : EnvOK Try.prog E_s_l00Src_pick := (mkE_ok tab_ok mixed AllF.nil (AllX.cons ok_s_l00Src_next AllX.nil))
theorem ev_s_l00Src_pick (s : dSrc) (n : Int) : evalX E_s_l00Src_pick noL Try.f69 [.optr tSrc, .ro false (.int .i64)] (.one false (.int .i64)) (s, n, ()) = g_s_l00Src_pick s n := by kernel_rfl
def m_s_l00Src_pick : FX := { ps := [.optr tSrc, .ro false (.int .i64)], res := .one false (.int .i64), run := fun x => g_s_l00Src_pick x.1 x.2.1 }
set_option maxRecDepth 4000 in
theorem ok_s_l00Src_pick : FxOK Try.prog 69 m_s_l00Src_pick := @FxOK.made Try.prog E_s_l00Src_pick ek_s_l00Src_pick 69 Try.f69 noL m_s_l00Src_pick Try.func69 (by kernel_rfl) (Loops.none (by kernel_rfl)) fun ds out _ hr => by obtain ⟨s, n, ⟨⟩⟩ := ds; exact (ev_s_l00Src_pick s n).trans hr

def E_s_l01DrawSmall : Tabs := (mkE tab [] [(69, m_s_l00Src_pick)])
set_option maxRecDepth 4000 in
theorem ek_s_l01DrawSmall : EnvOK Try.prog E_s_l01DrawSmall := (mkE_ok tab_ok mixed AllF.nil (AllX.cons ok_s_l00Src_pick AllX.nil))
theorem ev_s_l01DrawSmall (s : dSrc) : evalX E_s_l01DrawSmall noL Try.f84 [.optr tSrc] (.one false (.flt .f32)) (s, ()) = g_s_l01DrawSmall s := by kernel_rfl
def m_s_l01DrawSmall : FX := { ps := [.optr tSrc], res := .one false (.flt .f32), run := fun x => g_s_l01DrawSmall x.1 }
set_option maxRecDepth 4000 in
theorem ok_s_l01DrawSmall : FxOK Try.prog 84 m_s_l01DrawSmall := @FxOK.made Try.prog E_s_l01DrawSmall ek_s_l01DrawSmall 84 Try.f84 noL m_s_l01DrawSmall Try.func84 (by kernel_rfl) (Loops.none (by kernel_rfl)) fun ds out _ hr => by obtain ⟨s, ⟨⟩⟩ := ds; exact (ev_s_l01DrawSmall s).trans hr

def E_s_R8Small : Tabs := (mkE tab [] [(67, m_s_l00From), (84, m_s_l01DrawSmall)])
set_option maxRecDepth 4000 in
theorem ek_s_R8Small : EnvOK Try.prog E_s_R8Small := (mkE_ok tab_ok mixed AllF.nil (AllX.cons ok_s_l00From (AllX.cons ok_s_l01DrawSmall AllX.nil)))
theorem ev_s_R8Small (code : (List Int)) : evalF E_s_R8Small noL Try.f30 [.ro false (.slice (.int .u8))] (.one true tVec) (code, ()) = g_s_R8Small code := by kernel_rfl
def m_s_R8Small : FM := { ps := [.ro false (.slice (.int .u8))], res := .one true tVec, run := fun x => g_s_R8Small x.1 }
set_option maxRecDepth 4000 in
theorem ok_s_R8Small : FmOK Try.prog 30 m_s_R8Small := @FmOK.made Try.prog E_s_R8Small ek_s_R8Small 30 Try.f30 noL m_s_R8Small Try.func30 (by kernel_rfl) (Loops.none (by kernel_rfl)) fun ds out _ hr => by obtain ⟨code, ⟨⟩⟩ := ds; exact (ev_s_R8Small code).trans hr

def E_i_InnerOf : Tabs := (mkE tab [] [])
set_option maxRecDepth 4000 in
theorem ek_i_InnerOf : EnvOK Try.prog E_i_InnerOf := (mkE_ok tab_ok mixed AllF.nil AllX.nil)
theorem ev_i_InnerOf (a : dVec) (b : dVec) : evalF E_i_InnerOf noL Try.f64 [.ro true tVec, .ro true tVec] (.one false (.flt .f32)) (a, b, ()) = g_i_InnerOf a b := by kernel_rfl
def m_i_InnerOf : FM := { ps := [.ro true tVec, .ro true tVec], res := .one false (.flt .f32), run := fun x => some (t_i_InnerOf x.1 x.2.1) }
set_option maxRecDepth 4000 in
theorem ok_i_InnerOf : FmOK Try.prog 64 m_i_InnerOf := @FmOK.made Try.prog E_i_InnerOf ek_i_InnerOf 64 Try.f64 noL m_i_InnerOf Try.func64 (by kernel_rfl) (Loops.none (by kernel_rfl)) fun ds out _ hr => by obtain ⟨a, b, ⟨⟩⟩ := ds; exact (ev_i_InnerOf a b).trans ((q_i_InnerOf a b).trans hr)

set_option maxRecDepth 4000 in
theorem ok_mathsqrt : FmOK Try.prog 117 m_mathsqrt := FmOK.sqrt Try.func117 (by kernel_rfl) rfl (by kernel_rfl) (by kernel_rfl)

def E_math_Sqrt : Tabs := (mkE tab [(117, m_mathsqrt)] [])
set_option maxRecDepth 4000 in
theorem ek_math_Sqrt : EnvOK Try.prog E_math_Sqrt := (mkE_ok tab_ok mixed (AllF.cons ok_mathsqrt AllF.nil) AllX.nil)
theorem ev_math_Sqrt (xx : Nat) : evalF E_math_Sqrt noL Try.f114 [.ro false (.flt .f64)] (.one false (.flt .f64)) (xx, ()) = g_math_Sqrt xx := by kernel_rfl
def m_math_Sqrt : FM := { ps := [.ro false (.flt .f64)], res := .one false (.flt .f64), run := fun x => some (t_math_Sqrt x.1) }
set_option maxRecDepth 4000 in
theorem ok_math_Sqrt : FmOK Try.prog 114 m_math_Sqrt := @FmOK.made Try.prog E_math_Sqrt ek_math_Sqrt 114 Try.f114 noL m_math_Sqrt Try.func114 (by kernel_rfl) (Loops.none (by kernel_rfl)) fun ds out _ hr => by obtain ⟨xx, ⟨⟩⟩ := ds; exact (ev_math_Sqrt xx).trans ((q_math_Sqrt xx).trans hr)

def E_i_RootNumber : Tabs := (mkE tab [(114, m_math_Sqrt)] [])
set_option maxRecDepth 4000 in
theorem ek_i_RootNumber : EnvOK Try.prog E_i_RootNumber := (mkE_ok tab_ok mixed (AllF.cons ok_math_Sqrt AllF.nil) AllX.nil)
theorem ev_i_RootNumber (xx : Nat) : evalF E_i_RootNumber noL Try.f88 [.ro false (.flt .f32)] (.one false (.flt .f32)) (xx, ()) = g_i_RootNumber xx := by kernel_rfl
def m_i_RootNumber : FM := { ps := [.ro false (.flt .f32)], res := .one false (.flt .f32), run := fun x => g_i_RootNumber x.1 }
set_option maxRecDepth 4000 in
theorem ok_i_RootNumber : FmOK Try.prog 88 m_i_RootNumber := @FmOK.made Try.prog E_i_RootNumber ek_i_RootNumber 88 Try.f88 noL m_i_RootNumber Try.func88 (by kernel_rfl) (Loops.none (by kernel_rfl)) fun ds out _ hr => by obtain ⟨xx, ⟨⟩⟩ := ds; exact (ev_i_RootNumber xx).trans hr

def E_i_LongOf : Tabs := (mkE tab [(64, m_i_InnerOf), (88, m_i_RootNumber)] [])
set_option maxRecDepth 4000 in
theorem ek_i_LongOf : EnvOK Try.prog E_i_LongOf := (mkE_ok tab_ok mixed (AllF.cons ok_i_InnerOf (AllF.cons ok_i_RootNumber AllF.nil)) AllX.nil)
theorem ev_i_LongOf (v : dVec) : evalF E_i_LongOf noL Try.f39 [.ro true tVec] (.one false (.flt .f32)) (v, ()) = g_i_LongOf v := by kernel_rfl
def m_i_LongOf : FM := { ps := [.ro true tVec], res := .one false (.flt .f32), run := fun x => g_i_LongOf x.1 }
set_option maxRecDepth 4000 in
theorem ok_i_LongOf : FmOK Try.prog 39 m_i_LongOf := @FmOK.made Try.prog E_i_LongOf ek_i_LongOf 39 Try.f39 noL m_i_LongOf Try.func39 (by kernel_rfl) (Loops.none (by kernel_rfl)) fun ds out _ hr => by obtain ⟨v, ⟨⟩⟩ := ds; exact (ev_i_LongOf v).trans hr

def E_i_CrossOf : Tabs := (mkE tab [] [])
set_option maxRecDepth 4000 in
theorem ek_i_CrossOf : EnvOK Try.prog E_i_CrossOf := (mkE_ok tab_ok mixed AllF.nil AllX.nil)
theorem ev_i_CrossOf (a : dVec) (b : dVec) : evalF E_i_CrossOf noL Try.f55 [.ro true tVec, .ro true tVec] (.one true tVec) (a, b, ()) = g_i_CrossOf a b := by kernel_rfl
def m_i_CrossOf : FM := { ps := [.ro true tVec, .ro true tVec], res := .one true tVec, run := fun x => some (t_i_CrossOf x.1 x.2.1) }
set_option maxRecDepth 4000 in
theorem ok_i_CrossOf : FmOK Try.prog 55 m_i_CrossOf := @FmOK.made Try.prog E_i_CrossOf ek_i_CrossOf 55 Try.f55 noL m_i_CrossOf Try.func55 (by kernel_rfl) (Loops.none (by kernel_rfl)) fun ds out _ hr => by obtain ⟨a, b, ⟨⟩⟩ := ds; exact (ev_i_CrossOf a b).trans ((q_i_CrossOf a b).trans hr)

def E_i_turnOf : Tabs := (mkE tab [] [])
set_option maxRecDepth 4000 in
theorem ek_i_turnOf : EnvOK Try.prog E_i_turnOf := (mkE_ok tab_ok mixed AllF.nil AllX.nil)
theorem ev_i_turnOf (w : Nat) (v : dVec) : evalF E_i_turnOf noL Try.f89 [.ro false (.flt .f32), .ro true tVec] (.one true tTurn) (w, v, ()) = g_i_turnOf w v := by kernel_rfl
def m_i_turnOf : FM := { ps := [.ro false (.flt .f32), .ro true tVec], res := .one true tTurn, run := fun x => some (t_i_turnOf x.1 x.2.1) }
set_option maxRecDepth 4000 in
theorem ok_i_turnOf : FmOK Try.prog 89 m_i_turnOf := @FmOK.made Try.prog E_i_turnOf ek_i_turnOf 89 Try.f89 noL m_i_turnOf Try.func89 (by kernel_rfl) (Loops.none (by kernel_rfl)) fun ds out _ hr => by obtain ⟨w, v, ⟨⟩⟩ := ds; exact (ev_i_turnOf w v).trans ((q_i_turnOf w v).trans hr)

def E_i_InnerOfTurns : Tabs := (mkE tab [] [])
set_option maxRecDepth 4000 in
theorem ek_i_InnerOfTurns : EnvOK Try.prog E_i_InnerOfTurns := (mkE_ok tab_ok mixed AllF.nil AllX.nil)
theorem ev_i_InnerOfTurns (a : dTurn) (b : dTurn) : evalF E_i_InnerOfTurns noL Try.f50 [.ro true tTurn, .ro true tTurn] (.one false (.flt .f32)) (a, b, ()) = g_i_InnerOfTurns a b := by kernel_rfl
def m_i_InnerOfTurns : FM := { ps := [.ro true tTurn, .ro true tTurn], res := .one false (.flt .f32), run := fun x => some (t_i_InnerOfTurns x.1 x.2.1) }
set_option maxRecDepth 4000 in
theorem ok_i_InnerOfTurns : FmOK Try.prog 50 m_i_InnerOfTurns := @FmOK.made Try.prog E_i_InnerOfTurns ek_i_InnerOfTurns 50 Try.f50 noL m_i_InnerOfTurns Try.func50 (by kernel_rfl) (Loops.none (by kernel_rfl)) fun ds out _ hr => by obtain ⟨a, b, ⟨⟩⟩ := ds; exact (ev_i_InnerOfTurns a b).trans ((q_i_InnerOfTurns a b).trans hr)

def E_i_LengthOfTurn : Tabs := (mkE tab [(50, m_i_InnerOfTurns), (88, m_i_RootNumber)] [])
set_option maxRecDepth 4000 in
theorem ek_i_LengthOfTurn : EnvOK Try.prog E_i_LengthOfTurn := (mkE_ok tab_ok mixed (AllF.cons ok_i_InnerOfTurns (AllF.cons ok_i_RootNumber AllF.nil)) AllX.nil)
theorem ev_i_LengthOfTurn (t : dTurn) : evalF E_i_LengthOfTurn noL Try.f41 [.ro true tTurn] (.one false (.flt .f32)) (t, ()) = g_i_LengthOfTurn t := by kernel_rfl
def m_i_LengthOfTurn : FM := { ps := [.ro true tTurn], res := .one false (.flt .f32), run := fun x => g_i_LengthOfTurn x.1 }
set_option maxRecDepth 4000 in
theorem ok_i_LengthOfTurn : FmOK Try.prog 41 m_i_LengthOfTurn := @FmOK.made Try.prog E_i_LengthOfTurn ek_i_LengthOfTurn 41 Try.f41 noL m_i_LengthOfTurn Try.func41 (by kernel_rfl) (Loops.none (by kernel_rfl)) fun ds out _ hr => by obtain ⟨t, ⟨⟩⟩ := ds; exact (ev_i_LengthOfTurn t).trans hr

def E_i_IsFinite : Tabs := (mkE tab [] [])
set_option maxRecDepth 4000 in
theorem ek_i_IsFinite : EnvOK Try.prog E_i_IsFinite := (mkE_ok tab_ok mixed AllF.nil AllX.nil)
theorem ev_i_IsFinite (xx : Nat) : evalF E_i_IsFinite noL Try.f23 [.ro false (.flt .f32)] (.one false .bool) (xx, ()) = g_i_IsFinite xx := by kernel_rfl
def m_i_IsFinite : FM := { ps := [.ro false (.flt .f32)], res := .one false .bool, run := fun x => some (t_i_IsFinite x.1) }
set_option maxRecDepth 4000 in
theorem ok_i_IsFinite : FmOK Try.prog 23 m_i_IsFinite := @FmOK.made Try.prog E_i_IsFinite ek_i_IsFinite 23 Try.f23 noL m_i_IsFinite Try.func23 (by kernel_rfl) (Loops.none (by kernel_rfl)) fun ds out _ hr => by obtain ⟨xx, ⟨⟩⟩ := ds; exact (ev_i_IsFinite xx).trans ((q_i_IsFinite xx).trans hr)

def E_i_isLength : Tabs := (mkE tab [(23, m_i_IsFinite)] [])
set_option maxRecDepth 4000 in
theorem ek_i_isLength : EnvOK Try.prog E_i_isLength := (mkE_ok tab_ok mixed (AllF.cons ok_i_IsFinite AllF.nil) AllX.nil)
theorem ev_i_isLength (n : Nat) : evalF E_i_isLength noL Try.f93 [.ro false (.flt .f32)] (.one false .bool) (n, ()) = g_i_isLength n := by kernel_rfl
def m_i_isLength : FM := { ps := [.ro false (.flt .f32)], res := .one false .bool, run := fun x => some (t_i_isLength x.1) }
set_option maxRecDepth 4000 in
theorem ok_i_isLength : FmOK Try.prog 93 m_i_isLength := @FmOK.made Try.prog E_i_isLength ek_i_isLength 93 Try.f93 noL m_i_isLength Try.func93 (by kernel_rfl) (Loops.none (by kernel_rfl)) fun ds out _ hr => by obtain ⟨n, ⟨⟩⟩ := ds; exact (ev_i_isLength n).trans ((q_i_isLength n).trans hr)

def E_i_NoTurn : Tabs := (mkE tab [] [])
set_option maxRecDepth 4000 in
theorem ek_i_NoTurn : EnvOK Try.prog E_i_NoTurn := (mkE_ok tab_ok mixed AllF.nil AllX.nil)
theorem ev_i_NoTurn  : evalF E_i_NoTurn noL Try.f49 [] (.one true tTurn) (()) = g_i_NoTurn  := by kernel_rfl
def m_i_NoTurn : FM := { ps := [], res := .one true tTurn, run := fun x => some (t_i_NoTurn ) }
set_option maxRecDepth 4000 in
theorem ok_i_NoTurn : FmOK Try.prog 49 m_i_NoTurn := @FmOK.made Try.prog E_i_NoTurn ek_i_NoTurn 49 Try.f49 noL m_i_NoTurn Try.func49 (by kernel_rfl) (Loops.none (by kernel_rfl)) fun ds out _ hr => by obtain ⟨⟨⟩⟩ := ds; exact (ev_i_NoTurn ).trans ((q_i_NoTurn ).trans hr)

def E_i_MendTurn : Tabs := (mkE tab [(41, m_i_LengthOfTurn), (93, m_i_isLength), (49, m_i_NoTurn)] [])
set_option maxRecDepth 4000 in
theorem ek_i_MendTurn : EnvOK Try.prog E_i_MendTurn := (mkE_ok tab_ok mixed (AllF.cons ok_i_LengthOfTurn (AllF.cons ok_i_isLength (AllF.cons ok_i_NoTurn AllF.nil))) AllX.nil)
theorem ev_i_MendTurn (t : dTurn) : evalF E_i_MendTurn noL Try.f51 [.ro true tTurn] (.one true tTurn) (t, ()) = g_i_MendTurn t := by kernel_rfl
def m_i_MendTurn : FM := { ps := [.ro true tTurn], res := .one true tTurn, run := fun x => g_i_MendTurn x.1 }
set_option maxRecDepth 4000 in
theorem ok_i_MendTurn : FmOK Try.prog 51 m_i_MendTurn := @FmOK.made Try.prog E_i_MendTurn ek_i_MendTurn 51 Try.f51 noL m_i_MendTurn Try.func51 (by kernel_rfl) (Loops.none (by kernel_rfl)) fun ds out _ hr => by obtain ⟨t, ⟨⟩⟩ := ds; exact (ev_i_MendTurn t).trans hr

def E_i_TurnBetween : Tabs := (mkE tab [(39, m_i_LongOf), (64, m_i_InnerOf), (55, m_i_CrossOf), (89, m_i_turnOf), (51, m_i_MendTurn)] [])
set_option maxRecDepth 4000 in
theorem ek_i_TurnBetween : EnvOK Try.prog E_i_TurnBetween := (mkE_ok tab_ok mixed (AllF.cons ok_i_LongOf (AllF.cons ok_i_InnerOf (AllF.cons ok_i_CrossOf (AllF.cons ok_i_turnOf (AllF.cons ok_i_MendTurn AllF.nil))))) AllX.nil)
theorem ev_i_TurnBetween (a : dVec) (b : dVec) : evalF E_i_TurnBetween noL Try.f40 [.ro true tVec, .ro true tVec] (.one true tTurn) (a, b, ()) = g_i_TurnBetween a b := by kernel_rfl
def m_i_TurnBetween : FM := { ps := [.ro true tVec, .ro true tVec], res := .one true tTurn, run := fun x => g_i_TurnBetween x.1 x.2.1 }
set_option maxRecDepth 4000 in
theorem ok_i_TurnBetween : FmOK Try.prog 40 m_i_TurnBetween := @FmOK.made Try.prog E_i_TurnBetween ek_i_TurnBetween 40 Try.f40 noL m_i_TurnBetween Try.func40 (by kernel_rfl) (Loops.none (by kernel_rfl)) fun ds out _ hr => by obtain ⟨a, b, ⟨⟩⟩ := ds; exact (ev_i_TurnBetween a b).trans hr

def E_w_r8Gap : Tabs := (mkE tab [] [])
set_option maxRecDepth 4000 in
theorem ek_w_r8Gap : EnvOK Try.prog E_w_r8Gap := (mkE_ok tab_ok mixed AllF.nil AllX.nil)
theorem ev_w_r8Gap (a : Nat) (b : Nat) : evalF E_w_r8Gap noL Try.f31 [.ro false (.flt .f64), .ro false (.flt .f64)] (.one false (.flt .f64)) (a, b, ()) = g_w_r8Gap a b := by kernel_rfl
def m_w_r8Gap : FM := { ps := [.ro false (.flt .f64), .ro false (.flt .f64)], res := .one false (.flt .f64), run := fun x => some (t_w_r8Gap x.1 x.2.1) }
set_option maxRecDepth 4000 in
theorem ok_w_r8Gap : FmOK Try.prog 31 m_w_r8Gap := @FmOK.made Try.prog E_w_r8Gap ek_w_r8Gap 31 Try.f31 noL m_w_r8Gap Try.func31 (by kernel_rfl) (Loops.none (by kernel_rfl)) fun ds out _ hr => by obtain ⟨a, b, ⟨⟩⟩ := ds; exact (ev_w_r8Gap a b).trans ((q_w_r8Gap a b).trans hr)

def E_i_InverseOf : Tabs := (mkE tab [] [])
set_option maxRecDepth 4000 in
theorem ek_i_InverseOf : EnvOK Try.prog E_i_InverseOf := (mkE_ok tab_ok mixed AllF.nil AllX.nil)
theorem ev_i_InverseOf (t : dTurn) : evalF E_i_InverseOf noL Try.f42 [.ro true tTurn] (.one true tTurn) (t, ()) = g_i_InverseOf t := by kernel_rfl
def m_i_InverseOf : FM := { ps := [.ro true tTurn], res := .one true tTurn, run := fun x => some (t_i_InverseOf x.1) }
set_option maxRecDepth 4000 in
theorem ok_i_InverseOf : FmOK Try.prog 42 m_i_InverseOf := @FmOK.made Try.prog E_i_InverseOf ek_i_InverseOf 42 Try.f42 noL m_i_InverseOf Try.func42 (by kernel_rfl) (Loops.none (by kernel_rfl)) fun ds out _ hr => by obtain ⟨t, ⟨⟩⟩ := ds; exact (ev_i_InverseOf t).trans ((q_i_InverseOf t).trans hr)

def E_i_Turn_vector : Tabs := (mkE tab [] [])
set_option maxRecDepth 4000 in
theorem ek_i_Turn_vector : EnvOK Try.prog E_i_Turn_vector := (mkE_ok tab_ok mixed AllF.nil AllX.nil)
theorem ev_i_Turn_vector (t : dTurn) : evalF E_i_Turn_vector noL Try.f90 [.ro true tTurn] (.one true tVec) (t, ()) = g_i_Turn_vector t := by kernel_rfl
def m_i_Turn_vector : FM := { ps := [.ro true tTurn], res := .one true tVec, run := fun x => some (t_i_Turn_vector x.1) }
set_option maxRecDepth 4000 in
theorem ok_i_Turn_vector : FmOK Try.prog 90 m_i_Turn_vector := @FmOK.made Try.prog E_i_Turn_vector ek_i_Turn_vector 90 Try.f90 noL m_i_Turn_vector Try.func90 (by kernel_rfl) (Loops.none (by kernel_rfl)) fun ds out _ hr => by obtain ⟨t, ⟨⟩⟩ := ds; exact (ev_i_Turn_vector t).trans ((q_i_Turn_vector t).trans hr)

def E_i_ScaleVector : Tabs := (mkE tab [] [])
set_option maxRecDepth 4000 in
theorem ek_i_ScaleVector : EnvOK Try.prog E_i_ScaleVector := (mkE_ok tab_ok mixed AllF.nil AllX.nil)
theorem ev_i_ScaleVector (v : dVec) (byx : Nat) : evalF E_i_ScaleVector noL Try.f43 [.ro true tVec, .ro false (.flt .f32)] (.one true tVec) (v, byx, ()) = g_i_ScaleVector v byx := by kernel_rfl
def m_i_ScaleVector : FM := { ps := [.ro true tVec, .ro false (.flt .f32)], res := .one true tVec, run := fun x => some (t_i_ScaleVector x.1 x.2.1) }
set_option maxRecDepth 4000 in
theorem ok_i_ScaleVector : FmOK Try.prog 43 m_i_ScaleVector := @FmOK.made Try.prog E_i_ScaleVector ek_i_ScaleVector 43 Try.f43 noL m_i_ScaleVector Try.func43 (by kernel_rfl) (Loops.none (by kernel_rfl)) fun ds out _ hr => by obtain ⟨v, byx, ⟨⟩⟩ := ds; exact (ev_i_ScaleVector v byx).trans ((q_i_ScaleVector v byx).trans hr)

def E_i_AddVectors : Tabs := (mkE tab [] [])
set_option maxRecDepth 4000 in
theorem ek_i_AddVectors : EnvOK Try.prog E_i_AddVectors := (mkE_ok tab_ok mixed AllF.nil AllX.nil)
theorem ev_i_AddVectors (a : dVec) (b : dVec) : evalF E_i_AddVectors noL Try.f91 [.ro true tVec, .ro true tVec] (.one true tVec) (a, b, ()) = g_i_AddVectors a b := by kernel_rfl
def m_i_AddVectors : FM := { ps := [.ro true tVec, .ro true tVec], res := .one true tVec, run := fun x => some (t_i_AddVectors x.1 x.2.1) }
set_option maxRecDepth 4000 in
theorem ok_i_AddVectors : FmOK Try.prog 91 m_i_AddVectors := @FmOK.made Try.prog E_i_AddVectors ek_i_AddVectors 91 Try.f91 noL m_i_AddVectors Try.func91 (by kernel_rfl) (Loops.none (by kernel_rfl)) fun ds out _ hr => by obtain ⟨a, b, ⟨⟩⟩ := ds; exact (ev_i_AddVectors a b).trans ((q_i_AddVectors a b).trans hr)

def E_i_RotateBy : Tabs := (mkE tab [(90, m_i_Turn_vector), (55, m_i_CrossOf), (43, m_i_ScaleVector), (91, m_i_AddVectors)] [])
set_option maxRecDepth 4000 in
theorem ek_i_RotateBy : EnvOK Try.prog E_i_RotateBy := (mkE_ok tab_ok mixed (AllF.cons ok_i_Turn_vector (AllF.cons ok_i_CrossOf (AllF.cons ok_i_ScaleVector (AllF.cons ok_i_AddVectors AllF.nil)))) AllX.nil)
theorem ev_i_RotateBy (t : dTurn) (v : dVec) : evalF E_i_RotateBy noL Try.f44 [.ro true tTurn, .ro true tVec] (.one true tVec) (t, v, ()) = g_i_RotateBy t v := by kernel_rfl
def m_i_RotateBy : FM := { ps := [.ro true tTurn, .ro true tVec], res := .one true tVec, run := fun x => some (t_i_RotateBy x.1 x.2.1) }
set_option maxRecDepth 4000 in
theorem ok_i_RotateBy : FmOK Try.prog 44 m_i_RotateBy := @FmOK.made Try.prog E_i_RotateBy ek_i_RotateBy 44 Try.f44 noL m_i_RotateBy Try.func44 (by kernel_rfl) (Loops.none (by kernel_rfl)) fun ds out _ hr => by obtain ⟨t, v, ⟨⟩⟩ := ds; exact (ev_i_RotateBy t v).trans ((q_i_RotateBy t v).trans hr)

def E_i_LessVectors : Tabs := (mkE tab [] [])
set_option maxRecDepth 4000 in
theorem ek_i_LessVectors : EnvOK Try.prog E_i_LessVectors := (mkE_ok tab_ok mixed AllF.nil AllX.nil)
theorem ev_i_LessVectors (a : dVec) (b : dVec) : evalF E_i_LessVectors noL Try.f45 [.ro true tVec, .ro true tVec] (.one true tVec) (a, b, ()) = g_i_LessVectors a b := by kernel_rfl
def m_i_LessVectors : FM := { ps := [.ro true tVec, .ro true tVec], res := .one true tVec, run := fun x => some (t_i_LessVectors x.1 x.2.1) }
set_option maxRecDepth 4000 in
theorem ok_i_LessVectors : FmOK Try.prog 45 m_i_LessVectors := @FmOK.made Try.prog E_i_LessVectors ek_i_LessVectors 45 Try.f45 noL m_i_LessVectors Try.func45 (by kernel_rfl) (Loops.none (by kernel_rfl)) fun ds out _ hr => by obtain ⟨a, b, ⟨⟩⟩ := ds; exact (ev_i_LessVectors a b).trans ((q_i_LessVectors a b).trans hr)

def E_w_FnTurnsBetween : Tabs := (mkE tab [(26, m_w_r8Long), (30, m_s_R8Small), (39, m_i_LongOf), (40, m_i_TurnBetween), (41, m_i_LengthOfTurn), (31, m_w_r8Gap), (42, m_i_InverseOf), (44, m_i_RotateBy), (43, m_i_ScaleVector), (45, m_i_LessVectors)] [])
set_option maxRecDepth 4000 in
theorem ek_w_FnTurnsBetween : EnvOK Try.prog E_w_FnTurnsBetween := (mkE_ok tab_ok mixed (AllF.cons ok_w_r8Long (AllF.cons ok_s_R8Small (AllF.cons ok_i_LongOf (AllF.cons ok_i_TurnBetween (AllF.cons ok_i_LengthOfTurn (AllF.cons ok_w_r8Gap (AllF.cons ok_i_InverseOf (AllF.cons ok_i_RotateBy (AllF.cons ok_i_ScaleVector (AllF.cons ok_i_LessVectors AllF.nil)))))))))) AllX.nil)
theorem ev_w_FnTurnsBetween (code : (List Int)) (more : (List Int)) : evalF E_w_FnTurnsBetween noL Try.f7 [.ro false (.slice (.int .u8)), .ro false (.slice (.int .u8))] (.one false .bool) (code, more, ()) = g_w_FnTurnsBetween code more := by kernel_rfl
end
end Go.Fw.F
