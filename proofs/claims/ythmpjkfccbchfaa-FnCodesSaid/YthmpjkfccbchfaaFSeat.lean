/- The functions of the translation compute what the plain functions compute. No condition. -/
import Derived.Test.YthmpjkfccbchfaaFPure
import Derived.Test.YthmpjkfccbchfaaProg
import Derived.KernelRfl
set_option linter.unusedVariables false
namespace Go.Fw.F
open Go.Fw Go.Proofs Go.RowKit
noncomputable section
def tab : List (Nat × TI) := [
  (2, { und := .int .i64, size := 1, bytes := 8, zero := [.int .i64 0], ty := (.int .i64) }),
  (3, { und := .int .i64, size := 1, bytes := 8, zero := [.int .i64 0], ty := (.int .i64) }),
  (4, { und := .bool, size := 1, bytes := 1, zero := [.bool false], ty := .bool }),
  (5, { und := .int .u8, size := 1, bytes := 1, zero := [.int .u8 0], ty := (.int .u8) }),
  (22, { und := .slice 5, size := 1, bytes := 24, zero := [.sl .nil], ty := (.slice (.int .u8)) }),
  (24, { und := .flt .f32, size := 1, bytes := 4, zero := [.flt .f32 0], ty := (.flt .f32) }),
  (28, { und := .flt .f64, size := 1, bytes := 8, zero := [.flt .f64 0], ty := (.flt .f64) }),
  (35, { und := .int .u64, size := 1, bytes := 8, zero := [.int .u64 0], ty := (.int .u64) }),
  (40, { und := .struct [(0, 24), (1, 24), (2, 24)], size := 3, bytes := 12, zero := [.flt .f32 0, .flt .f32 0, .flt .f32 0], ty := tVec }),
  (76, { und := .other, size := 1, bytes := 8, zero := [.pnil], ty := .unit }),
  (97, { und := .int .u64, size := 1, bytes := 8, zero := [.int .u64 0], ty := (.int .u64) }),
  (99, { und := .struct [(0, 22), (1, 3), (2, 97)], size := 3, bytes := 40, zero := [.sl .nil, .int .i64 0, .int .u64 0], ty := (.pair (.slice (.int .u8)) (.pair (.int .i64) (.pair (.int .u64) .unit))) })]
theorem tab_ok : TabOK Try.prog (lookT tab) := tabB_spec (by kernel_rfl)
theorem mixed : Try.prog.follows .mixedOrders = true := by kernel_rfl
def E_w_r8Long : Tabs := (mkE tab [] [])
set_option maxRecDepth 4000 in
theorem ek_w_r8Long : EnvOK Try.prog E_w_r8Long := (mkE_ok tab_ok mixed AllF.nil AllX.nil)
theorem ev_w_r8Long (code : (List Int)) (more : (List Int)) : evalF E_w_r8Long noL Try.f26 [.ro false (.slice (.int .u8)), .ro false (.slice (.int .u8))] (.one false .bool) (code, more, ()) = g_w_r8Long code more := by kernel_rfl
def m_w_r8Long : FM := { ps := [.ro false (.slice (.int .u8)), .ro false (.slice (.int .u8))], res := .one false .bool, run := fun x => some (t_w_r8Long x.1 x.2.1) }
set_option maxRecDepth 4000 in
theorem ok_w_r8Long : FmOK Try.prog 26 m_w_r8Long := @FmOK.made Try.prog E_w_r8Long ek_w_r8Long 26 Try.f26 noL m_w_r8Long Try.func26 (by kernel_rfl) (Loops.none (by kernel_rfl)) fun ds out _ hr => by obtain ⟨code, more, ⟨⟩⟩ := ds; exact (ev_w_r8Long code more).trans ((q_w_r8Long code more).trans hr)

def E_w_r8At : Tabs := (mkE tab [] [])
set_option maxRecDepth 4000 in
theorem ek_w_r8At : EnvOK Try.prog E_w_r8At := (mkE_ok tab_ok mixed AllF.nil AllX.nil)
theorem ev_w_r8At (code : (List Int)) (k : Int) (n : Int) : evalF E_w_r8At noL Try.f27 [.ro false (.slice (.int .u8)), .ro false (.int .i64), .ro false (.int .i64)] (.one false (.int .i64)) (code, k, n, ()) = g_w_r8At code k n := by kernel_rfl
def m_w_r8At : FM := { ps := [.ro false (.slice (.int .u8)), .ro false (.int .i64), .ro false (.int .i64)], res := .one false (.int .i64), run := fun x => g_w_r8At x.1 x.2.1 x.2.2.1 }
set_option maxRecDepth 4000 in
theorem ok_w_r8At : FmOK Try.prog 27 m_w_r8At := @FmOK.made Try.prog E_w_r8At ek_w_r8At 27 Try.f27 noL m_w_r8At Try.func27 (by kernel_rfl) (Loops.none (by kernel_rfl)) fun ds out _ hr => by obtain ⟨code, k, n, ⟨⟩⟩ := ds; exact (ev_w_r8At code k n).trans hr

def E_i_IsFinite : Tabs := (mkE tab [] [])
set_option maxRecDepth 4000 in
theorem ek_i_IsFinite : EnvOK Try.prog E_i_IsFinite := (mkE_ok tab_ok mixed AllF.nil AllX.nil)
theorem ev_i_IsFinite (xx : Nat) : evalF E_i_IsFinite noL Try.f23 [.ro false (.flt .f32)] (.one false .bool) (xx, ()) = g_i_IsFinite xx := by kernel_rfl
def m_i_IsFinite : FM := { ps := [.ro false (.flt .f32)], res := .one false .bool, run := fun x => some (t_i_IsFinite x.1) }
set_option maxRecDepth 4000 in
theorem ok_i_IsFinite : FmOK Try.prog 23 m_i_IsFinite := @FmOK.made Try.prog E_i_IsFinite ek_i_IsFinite 23 Try.f23 noL m_i_IsFinite Try.func23 (by kernel_rfl) (Loops.none (by kernel_rfl)) fun ds out _ hr => by obtain ⟨xx, ⟨⟩⟩ := ds; exact (ev_i_IsFinite xx).trans ((q_i_IsFinite xx).trans hr)

def E_i_isRange : Tabs := (mkE tab [(23, m_i_IsFinite)] [])
set_option maxRecDepth 4000 in
theorem ek_i_isRange : EnvOK Try.prog E_i_isRange := (mkE_ok tab_ok mixed (AllF.cons ok_i_IsFinite AllF.nil) AllX.nil)
theorem ev_i_isRange (low : Nat) (high : Nat) : evalF E_i_isRange noL Try.f79 [.ro false (.flt .f32), .ro false (.flt .f32)] (.one false .bool) (low, high, ()) = g_i_isRange low high := by kernel_rfl
def m_i_isRange : FM := { ps := [.ro false (.flt .f32), .ro false (.flt .f32)], res := .one false .bool, run := fun x => some (t_i_isRange x.1 x.2.1) }
set_option maxRecDepth 4000 in
theorem ok_i_isRange : FmOK Try.prog 79 m_i_isRange := @FmOK.made Try.prog E_i_isRange ek_i_isRange 79 Try.f79 noL m_i_isRange Try.func79 (by kernel_rfl) (Loops.none (by kernel_rfl)) fun ds out _ hr => by obtain ⟨low, high, ⟨⟩⟩ := ds; exact (ev_i_isRange low high).trans ((q_i_isRange low high).trans hr)

def E_i_areBits : Tabs := (mkE tab [] [])
set_option maxRecDepth 4000 in
theorem ek_i_areBits : EnvOK Try.prog E_i_areBits := (mkE_ok tab_ok mixed AllF.nil AllX.nil)
theorem ev_i_areBits (bits : Int) : evalF E_i_areBits noL Try.f80 [.ro false (.int .i64)] (.one false .bool) (bits, ()) = g_i_areBits bits := by kernel_rfl
def m_i_areBits : FM := { ps := [.ro false (.int .i64)], res := .one false .bool, run := fun x => some (t_i_areBits x.1) }
set_option maxRecDepth 4000 in
theorem ok_i_areBits : FmOK Try.prog 80 m_i_areBits := @FmOK.made Try.prog E_i_areBits ek_i_areBits 80 Try.f80 noL m_i_areBits Try.func80 (by kernel_rfl) (Loops.none (by kernel_rfl)) fun ds out _ hr => by obtain ⟨bits, ⟨⟩⟩ := ds; exact (ev_i_areBits bits).trans ((q_i_areBits bits).trans hr)

def E_i_codes : Tabs := (mkE tab [] [])
set_option maxRecDepth 4000 in
theorem ek_i_codes : EnvOK Try.prog E_i_codes := (mkE_ok tab_ok mixed AllF.nil AllX.nil)
theorem ev_i_codes (bits : Int) : evalF E_i_codes noL Try.f81 [.ro false (.int .i64)] (.one false (.int .i64)) (bits, ()) = g_i_codes bits := by kernel_rfl
def m_i_codes : FM := { ps := [.ro false (.int .i64)], res := .one false (.int .i64), run := fun x => g_i_codes x.1 }
set_option maxRecDepth 4000 in
theorem ok_i_codes : FmOK Try.prog 81 m_i_codes := @FmOK.made Try.prog E_i_codes ek_i_codes 81 Try.f81 noL m_i_codes Try.func81 (by kernel_rfl) (Loops.none (by kernel_rfl)) fun ds out _ hr => by obtain ⟨bits, ⟨⟩⟩ := ds; exact (ev_i_codes bits).trans hr

def E_i_numberOf : Tabs := (mkE tab [(81, m_i_codes)] [])
set_option maxRecDepth 4000 in
theorem ek_i_numberOf : EnvOK Try.prog E_i_numberOf := (mkE_ok tab_ok mixed (AllF.cons ok_i_codes AllF.nil) AllX.nil)
theorem ev_i_numberOf (code : Int) (low : Nat) (high : Nat) (bits : Int) : evalF E_i_numberOf noL Try.f82 [.ro false (.int .i64), .ro false (.flt .f32), .ro false (.flt .f32), .ro false (.int .i64)] (.one false (.flt .f32)) (code, low, high, bits, ()) = g_i_numberOf code low high bits := by kernel_rfl
def m_i_numberOf : FM := { ps := [.ro false (.int .i64), .ro false (.flt .f32), .ro false (.flt .f32), .ro false (.int .i64)], res := .one false (.flt .f32), run := fun x => g_i_numberOf x.1 x.2.1 x.2.2.1 x.2.2.2.1 }
set_option maxRecDepth 4000 in
theorem ok_i_numberOf : FmOK Try.prog 82 m_i_numberOf := @FmOK.made Try.prog E_i_numberOf ek_i_numberOf 82 Try.f82 noL m_i_numberOf Try.func82 (by kernel_rfl) (Loops.none (by kernel_rfl)) fun ds out _ hr => by obtain ⟨code, low, high, bits, ⟨⟩⟩ := ds; exact (ev_i_numberOf code low high bits).trans hr

def E_i_NumberOf : Tabs := (mkE tab [(79, m_i_isRange), (80, m_i_areBits), (81, m_i_codes), (82, m_i_numberOf)] [])
set_option maxRecDepth 4000 in
theorem ek_i_NumberOf : EnvOK Try.prog E_i_NumberOf := (mkE_ok tab_ok mixed (AllF.cons ok_i_isRange (AllF.cons ok_i_areBits (AllF.cons ok_i_codes (AllF.cons ok_i_numberOf AllF.nil)))) AllX.nil)
theorem ev_i_NumberOf (code : Int) (low : Nat) (high : Nat) (bits : Int) : evalF E_i_NumberOf noL Try.f28 [.ro false (.int .i64), .ro false (.flt .f32), .ro false (.flt .f32), .ro false (.int .i64)] (.tup [(false, (.flt .f32)), (false, .bool)]) (code, low, high, bits, ()) = g_i_NumberOf code low high bits := by kernel_rfl
def m_i_NumberOf : FM := { ps := [.ro false (.int .i64), .ro false (.flt .f32), .ro false (.flt .f32), .ro false (.int .i64)], res := .tup [(false, (.flt .f32)), (false, .bool)], run := fun x => g_i_NumberOf x.1 x.2.1 x.2.2.1 x.2.2.2.1 }
set_option maxRecDepth 4000 in
theorem ok_i_NumberOf : FmOK Try.prog 28 m_i_NumberOf := @FmOK.made Try.prog E_i_NumberOf ek_i_NumberOf 28 Try.f28 noL m_i_NumberOf Try.func28 (by kernel_rfl) (Loops.none (by kernel_rfl)) fun ds out _ hr => by obtain ⟨code, low, high, bits, ⟨⟩⟩ := ds; exact (ev_i_NumberOf code low high bits).trans hr

set_option maxRecDepth 4000 in
theorem ok_roundToEven : FmOK Try.prog 113 m_roundToEven := FmOK.whole .even (name := "math.RoundToEven") Try.func113 (by kernel_rfl) rfl (by kernel_rfl) (by kernel_rfl)

def E_i_codeOf : Tabs := (mkE tab [(81, m_i_codes), (113, m_roundToEven)] [])
set_option maxRecDepth 4000 in
theorem ek_i_codeOf : EnvOK Try.prog E_i_codeOf := (mkE_ok tab_ok mixed (AllF.cons ok_i_codes (AllF.cons ok_roundToEven AllF.nil)) AllX.nil)
theorem ev_i_codeOf (xx : Nat) (low : Nat) (high : Nat) (bits : Int) : evalF E_i_codeOf noL Try.f83 [.ro false (.flt .f32), .ro false (.flt .f32), .ro false (.flt .f32), .ro false (.int .i64)] (.one false (.int .i64)) (xx, low, high, bits, ()) = g_i_codeOf xx low high bits := by kernel_rfl
def m_i_codeOf : FM := { ps := [.ro false (.flt .f32), .ro false (.flt .f32), .ro false (.flt .f32), .ro false (.int .i64)], res := .one false (.int .i64), run := fun x => g_i_codeOf x.1 x.2.1 x.2.2.1 x.2.2.2.1 }
set_option maxRecDepth 4000 in
theorem ok_i_codeOf : FmOK Try.prog 83 m_i_codeOf := @FmOK.made Try.prog E_i_codeOf ek_i_codeOf 83 Try.f83 noL m_i_codeOf Try.func83 (by kernel_rfl) (Loops.none (by kernel_rfl)) fun ds out _ hr => by obtain ⟨xx, low, high, bits, ⟨⟩⟩ := ds; exact (ev_i_codeOf xx low high bits).trans hr

def E_i_CodeOf : Tabs := (mkE tab [(79, m_i_isRange), (80, m_i_areBits), (83, m_i_codeOf)] [])
set_option maxRecDepth 4000 in
theorem ek_i_CodeOf : EnvOK Try.prog E_i_CodeOf := (mkE_ok tab_ok mixed (AllF.cons ok_i_isRange (AllF.cons ok_i_areBits (AllF.cons ok_i_codeOf AllF.nil))) AllX.nil)
theorem ev_i_CodeOf (xx : Nat) (low : Nat) (high : Nat) (bits : Int) : evalF E_i_CodeOf noL Try.f29 [.ro false (.flt .f32), .ro false (.flt .f32), .ro false (.flt .f32), .ro false (.int .i64)] (.tup [(false, (.int .i64)), (false, .bool)]) (xx, low, high, bits, ()) = g_i_CodeOf xx low high bits := by kernel_rfl
def m_i_CodeOf : FM := { ps := [.ro false (.flt .f32), .ro false (.flt .f32), .ro false (.flt .f32), .ro false (.int .i64)], res := .tup [(false, (.int .i64)), (false, .bool)], run := fun x => g_i_CodeOf x.1 x.2.1 x.2.2.1 x.2.2.2.1 }
set_option maxRecDepth 4000 in
theorem ok_i_CodeOf : FmOK Try.prog 29 m_i_CodeOf := @FmOK.made Try.prog E_i_CodeOf ek_i_CodeOf 29 Try.f29 noL m_i_CodeOf Try.func29 (by kernel_rfl) (Loops.none (by kernel_rfl)) fun ds out _ hr => by obtain ⟨xx, low, high, bits, ⟨⟩⟩ := ds; exact (ev_i_CodeOf xx low high bits).trans hr

def E_s_l00From : Tabs := (mkE tab [] [])
set_option maxRecDepth 4000 in
theorem ek_s_l00From : EnvOK Try.prog E_s_l00From := (mkE_ok tab_ok mixed AllF.nil AllX.nil)
theorem ev_s_l00From (code : (List Int)) : evalX E_s_l00From noL Try.f67 [.ro false (.slice (.int .u8))] (.box tSrc) (code, ()) = g_s_l00From code := by kernel_rfl
def m_s_l00From : FX := { ps := [.ro false (.slice (.int .u8))], res := .box tSrc, run := fun x => some (t_s_l00From x.1) }
set_option maxRecDepth 4000 in
theorem ok_s_l00From : FxOK Try.prog 67 m_s_l00From := @FxOK.made Try.prog E_s_l00From ek_s_l00From 67 Try.f67 noL m_s_l00From Try.func67 (by kernel_rfl) (Loops.none (by kernel_rfl)) fun ds out _ hr => by obtain ⟨code, ⟨⟩⟩ := ds; exact (ev_s_l00From code).trans ((q_s_l00From code).trans hr)

def E_s_l00Src_next : Tabs := (mkE tab [] [])
set_option maxRecDepth 4000 in
theorem ek_s_l00Src_next : EnvOK Try.prog E_s_l00Src_next := (mkE_ok tab_ok mixed AllF.nil AllX.nil)
theorem ev_s_l00Src_next (s : dSrc) : evalX E_s_l00Src_next noL Try.f109 [.optr tSrc] (.one false (.int .i64)) (s, ()) = g_s_l00Src_next s := by kernel_rfl
def m_s_l00Src_next : FX := { ps := [.optr tSrc], res := .one false (.int .i64), run := fun x => g_s_l00Src_next x.1 }
set_option maxRecDepth 4000 in
theorem ok_s_l00Src_next : FxOK Try.prog 109 m_s_l00Src_next := @FxOK.made Try.prog E_s_l00Src_next ek_s_l00Src_next 109 Try.f109 noL m_s_l00Src_next Try.func109 (by kernel_rfl) (Loops.none (by kernel_rfl)) fun ds out _ hr => by obtain ⟨s, ⟨⟩⟩ := ds; exact (ev_s_l00Src_next s).trans hr

def E_s_l00Src_pick : Tabs := (mkE tab [] [(109, m_s_l00Src_next)])
set_option maxRecDepth 4000 in
theorem ek_s_l00Src_pick : EnvOK Try.prog E_s_l00Src_pick := (mkE_ok tab_ok mixed AllF.nil (AllX.cons ok_s_l00Src_next AllX.nil))
theorem ev_s_l00Src_pick (s : dSrc) (n : Int) : evalX E_s_l00Src_pick noL Try.f69 [.optr tSrc, .ro false (.int .i64)] (.one false (.int .i64)) (s, n, ()) = g_s_l00Src_pick s n := by kernel_rfl
def m_s_l00Src_pick : FX := { ps := [.optr tSrc, .ro false (.int .i64)], res := .one false (.int .i64), run := fun x => g_s_l00Src_pick x.1 x.2.1 }
set_option maxRecDepth 4000 in
theorem ok_s_l00Src_pick : FxOK Try.prog 69 m_s_l00Src_pick := @FxOK.made Try.prog E_s_l00Src_pick ek_s_l00Src_pick 69 Try.f69 noL m_s_l00Src_pick Try.func69 (by kernel_rfl) (Loops.none (by kernel_rfl)) fun ds out _ hr => by obtain ⟨s, n, ⟨⟩⟩ := ds; exact (ev_s_l00Src_pick s n).trans hr

def E_s_l01DrawSmall : Tabs := (mkE tab [] [(69, m_s_l00Src_pick)])
set_option maxRecDepth 4000 in
theorem ek_s_l01DrawSmall : EnvOK Try.prog E_s_l01DrawSmall := (mkE_ok tab_ok mixed AllF.nil (AllX.cons ok_s_l00Src_pick AllX.nil))
theorem ev_s_l01DrawSmall (s : dSrc) : evalX E_s_l01DrawSmall noL Try.f84 [.optr tSrc] (.one false (.flt .f32)) (s, ()) = g_s_l01DrawSmall s := by kernel_rfl
def m_s_l01DrawSmall : FX := { ps := [.optr tSrc], res := .one false (.flt .f32), run := fun x => g_s_l01DrawSmall x.1 }
set_option maxRecDepth 4000 in
theorem ok_s_l01DrawSmall : FxOK Try.prog 84 m_s_l01DrawSmall := @FxOK.made Try.prog E_s_l01DrawSmall ek_s_l01DrawSmall 84 Try.f84 noL m_s_l01DrawSmall Try.func84 (by kernel_rfl) (Loops.none (by kernel_rfl)) fun ds out _ hr => by obtain ⟨s, ⟨⟩⟩ := ds; exact (ev_s_l01DrawSmall s).trans hr

def E_s_R8Small : Tabs := (mkE tab [] [(67, m_s_l00From), (84, m_s_l01DrawSmall)])
set_option maxRecDepth 4000 in
theorem ek_s_R8Small : EnvOK Try.prog E_s_R8Small := (mkE_ok tab_ok mixed AllF.nil (AllX.cons ok_s_l00From (AllX.cons ok_s_l01DrawSmall AllX.nil)))
theorem ev_s_R8Small (code : (List Int)) : evalF E_s_R8Small noL Try.f30 [.ro false (.slice (.int .u8))] (.one true tVec) (code, ()) = g_s_R8Small code := by kernel_rfl
def m_s_R8Small : FM := { ps := [.ro false (.slice (.int .u8))], res := .one true tVec, run := fun x => g_s_R8Small x.1 }
set_option maxRecDepth 4000 in
theorem ok_s_R8Small : FmOK Try.prog 30 m_s_R8Small := @FmOK.made Try.prog E_s_R8Small ek_s_R8Small 30 Try.f30 noL m_s_R8Small Try.func30 (by kernel_rfl) (Loops.none (by kernel_rfl)) fun ds out _ hr => by obtain ⟨code, ⟨⟩⟩ := ds; exact (ev_s_R8Small code).trans hr

def E_w_r8Gap : Tabs := (mkE tab [] [])
set_option maxRecDepth 4000 in
theorem ek_w_r8Gap : EnvOK Try.prog E_w_r8Gap := (mkE_ok tab_ok mixed AllF.nil AllX.nil)
theorem ev_w_r8Gap (a : Nat) (b : Nat) : evalF E_w_r8Gap noL Try.f31 [.ro false (.flt .f64), .ro false (.flt .f64)] (.one false (.flt .f64)) (a, b, ()) = g_w_r8Gap a b := by kernel_rfl
def m_w_r8Gap : FM := { ps := [.ro false (.flt .f64), .ro false (.flt .f64)], res := .one false (.flt .f64), run := fun x => some (t_w_r8Gap x.1 x.2.1) }
set_option maxRecDepth 4000 in
theorem ok_w_r8Gap : FmOK Try.prog 31 m_w_r8Gap := @FmOK.made Try.prog E_w_r8Gap ek_w_r8Gap 31 Try.f31 noL m_w_r8Gap Try.func31 (by kernel_rfl) (Loops.none (by kernel_rfl)) fun ds out _ hr => by obtain ⟨a, b, ⟨⟩⟩ := ds; exact (ev_w_r8Gap a b).trans ((q_w_r8Gap a b).trans hr)

def E_w_FnCodes : Tabs := (mkE tab [(26, m_w_r8Long), (27, m_w_r8At), (28, m_i_NumberOf), (29, m_i_CodeOf), (30, m_s_R8Small), (31, m_w_r8Gap)] [])
set_option maxRecDepth 4000 in
theorem ek_w_FnCodes : EnvOK Try.prog E_w_FnCodes := (mkE_ok tab_ok mixed (AllF.cons ok_w_r8Long (AllF.cons ok_w_r8At (AllF.cons ok_i_NumberOf (AllF.cons ok_i_CodeOf (AllF.cons ok_s_R8Small (AllF.cons ok_w_r8Gap AllF.nil)))))) AllX.nil)
theorem ev_w_FnCodes (code : (List Int)) (more : (List Int)) : evalF E_w_FnCodes noL Try.f5 [.ro false (.slice (.int .u8)), .ro false (.slice (.int .u8))] (.one false .bool) (code, more, ()) = g_w_FnCodes code more := by kernel_rfl
end
end Go.Fw.F
