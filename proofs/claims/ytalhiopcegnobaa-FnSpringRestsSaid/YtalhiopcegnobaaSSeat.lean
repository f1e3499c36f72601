/- The functions of the translation compute what the plain functions compute. No condition. -/
import Derived.Test.YtalhiopcegnobaaSPure
import Derived.Test.YtalhiopcegnobaaProg
import Derived.KernelRfl
set_option linter.unusedVariables false
namespace Go.Fw.S
open Go.Fw Go.Proofs Go.RowKit
noncomputable section
def tab : List (Nat × TI) := [
  (2, { und := .int .i64, size := 1, bytes := 8, zero := [.int .i64 0], ty := (.int .i64) }),
  (3, { und := .int .i64, size := 1, bytes := 8, zero := [.int .i64 0], ty := (.int .i64) }),
  (4, { und := .bool, size := 1, bytes := 1, zero := [.bool false], ty := .bool }),
  (5, { und := .int .u8, size := 1, bytes := 1, zero := [.int .u8 0], ty := (.int .u8) }),
  (22, { und := .flt .f32, size := 1, bytes := 4, zero := [.flt .f32 0], ty := (.flt .f32) }),
  (26, { und := .struct [(0, 22), (1, 22), (2, 22), (3, 22)], size := 4, bytes := 16, zero := [.flt .f32 0, .flt .f32 0, .flt .f32 0, .flt .f32 0], ty := tTurn }),
  (31, { und := .slice 5, size := 1, bytes := 24, zero := [.sl .nil], ty := (.slice (.int .u8)) }),
  (34, { und := .struct [(0, 22), (1, 22), (2, 22)], size := 3, bytes := 12, zero := [.flt .f32 0, .flt .f32 0, .flt .f32 0], ty := tVec }),
  (39, { und := .flt .f64, size := 1, bytes := 8, zero := [.flt .f64 0], ty := (.flt .f64) }),
  (76, { und := .other, size := 1, bytes := 8, zero := [.pnil], ty := .unit }),
  (89, { und := .int .u64, size := 1, bytes := 8, zero := [.int .u64 0], ty := (.int .u64) }),
  (91, { und := .struct [(0, 31), (1, 3), (2, 89)], size := 3, bytes := 40, zero := [.sl .nil, .int .i64 0, .int .u64 0], ty := (.pair (.slice (.int .u8)) (.pair (.int .i64) (.pair (.int .u64) .unit))) })]
theorem tab_ok : TabOK Try.prog (lookT tab) := tabB_spec (by kernel_rfl)
theorem mixed : Try.prog.follows .mixedOrders = true := by kernel_rfl
def E_w_r8Long : Tabs := (mkE tab [] [])
set_option maxRecDepth 4000 in
theorem ek_w_r8Long : EnvOK Try.prog E_w_r8Long := (mkE_ok tab_ok mixed AllF.nil AllX.nil)
theorem ev_w_r8Long (code : (List Int)) (more : (List Int)) : evalF E_w_r8Long noL Try.f19 [.ro false (.slice (.int .u8)), .ro false (.slice (.int .u8))] (.one false .bool) (code, more, ()) = g_w_r8Long code more := by kernel_rfl
def m_w_r8Long : FM := { ps := [.ro false (.slice (.int .u8)), .ro false (.slice (.int .u8))], res := .one false .bool, run := fun x => some (t_w_r8Long x.1 x.2.1) }
set_option maxRecDepth 4000 in
theorem ok_w_r8Long : FmOK Try.prog 19 m_w_r8Long := @FmOK.made Try.prog E_w_r8Long ek_w_r8Long 19 Try.f19 noL m_w_r8Long Try.func19 (by kernel_rfl) (Loops.none (by kernel_rfl)) fun ds out _ hr => by obtain ⟨code, more, ⟨⟩⟩ := ds; exact (ev_w_r8Long code more).trans ((q_w_r8Long code more).trans hr)

def E_s_l00From : Tabs := (mkE tab [] [])
set_option maxRecDepth 4000 in
theorem ek_s_l00From : EnvOK Try.prog E_s_l00From := (mkE_ok tab_ok mixed AllF.nil AllX.nil)
theorem ev_s_l00From (code : (List Int)) : evalX E_s_l00From noL Try.f51 [.ro false (.slice (.int .u8))] (.box tSrc) (code, ()) = g_s_l00From code := by kernel_rfl
def m_s_l00From : FX := { ps := [.ro false (.slice (.int .u8))], res := .box tSrc, run := fun x => some (t_s_l00From x.1) }
set_option maxRecDepth 4000 in
theorem ok_s_l00From : FxOK Try.prog 51 m_s_l00From := @FxOK.made Try.prog E_s_l00From ek_s_l00From 51 Try.f51 noL m_s_l00From Try.func51 (by kernel_rfl) (Loops.none (by kernel_rfl)) fun ds out _ hr => by obtain ⟨code, ⟨⟩⟩ := ds; exact (ev_s_l00From code).trans ((q_s_l00From code).trans hr)

def E_s_l00Src_next : Tabs := (mkE tab [] [])
set_option maxRecDepth 4000 in
theorem ek_s_l00Src_next : EnvOK Try.prog E_s_l00Src_next := (mkE_ok tab_ok mixed AllF.nil AllX.nil)
theorem ev_s_l00Src_next (s : dSrc) : evalX E_s_l00Src_next noL Try.f73 [.optr tSrc] (.one false (.int .i64)) (s, ()) = g_s_l00Src_next s := by kernel_rfl
def m_s_l00Src_next : FX := { ps := [.optr tSrc], res := .one false (.int .i64), run := fun x => g_s_l00Src_next x.1 }
set_option maxRecDepth 4000 in
theorem ok_s_l00Src_next : FxOK Try.prog 73 m_s_l00Src_next := @FxOK.made Try.prog E_s_l00Src_next ek_s_l00Src_next 73 Try.f73 noL m_s_l00Src_next Try.func73 (by kernel_rfl) (Loops.none (by kernel_rfl)) fun ds out _ hr => by obtain ⟨s, ⟨⟩⟩ := ds; exact (ev_s_l00Src_next s).trans hr

def E_s_l00Src_pick : Tabs := (mkE tab [] [(73, m_s_l00Src_next)])
set_option maxRecDepth 4000 in
theorem ek_s_l00Src_pick : EnvOK Try.prog E_s_l00Src_pick := (mkE_ok tab_ok mixed AllF.nil (AllX.cons ok_s_l00Src_next AllX.nil))
theorem ev_s_l00Src_pick (s : dSrc) (n : Int) : evalX E_s_l00Src_pick noL Try.f60 [.optr tSrc, .ro false (.int .i64)] (.one false (.int .i64)) (s, n, ()) = g_s_l00Src_pick s n := by kernel_rfl
def m_s_l00Src_pick : FX := { ps := [.optr tSrc, .ro false (.int .i64)], res := .one false (.int .i64), run := fun x => g_s_l00Src_pick x.1 x.2.1 }
set_option maxRecDepth 4000 in
theorem ok_s_l00Src_pick : FxOK Try.prog 60 m_s_l00Src_pick := @FxOK.made Try.prog E_s_l00Src_pick ek_s_l00Src_pick 60 Try.f60 noL m_s_l00Src_pick Try.func60 (by kernel_rfl) (Loops.none (by kernel_rfl)) fun ds out _ hr => by obtain ⟨s, n, ⟨⟩⟩ := ds; exact (ev_s_l00Src_pick s n).trans hr

def E_s_l01DrawSmall : Tabs := (mkE tab [] [(60, m_s_l00Src_pick)])
set_option maxRecDepth 4000 in
theorem ek_s_l01DrawSmall : EnvOK Try.prog E_s_l01DrawSmall := (mkE_ok tab_ok mixed AllF.nil (AllX.cons ok_s_l00Src_pick AllX.nil))
theorem ev_s_l01DrawSmall (s : dSrc) : evalX E_s_l01DrawSmall noL Try.f52 [.optr tSrc] (.one false (.flt .f32)) (s, ()) = g_s_l01DrawSmall s := by kernel_rfl
def m_s_l01DrawSmall : FX := { ps := [.optr tSrc], res := .one false (.flt .f32), run := fun x => g_s_l01DrawSmall x.1 }
set_option maxRecDepth 4000 in
theorem ok_s_l01DrawSmall : FxOK Try.prog 52 m_s_l01DrawSmall := @FxOK.made Try.prog E_s_l01DrawSmall ek_s_l01DrawSmall 52 Try.f52 noL m_s_l01DrawSmall Try.func52 (by kernel_rfl) (Loops.none (by kernel_rfl)) fun ds out _ hr => by obtain ⟨s, ⟨⟩⟩ := ds; exact (ev_s_l01DrawSmall s).trans hr

def E_s_R8Small : Tabs := (mkE tab [] [(51, m_s_l00From), (52, m_s_l01DrawSmall)])
set_option maxRecDepth 4000 in
theorem ek_s_R8Small : EnvOK Try.prog E_s_R8Small := (mkE_ok tab_ok mixed AllF.nil (AllX.cons ok_s_l00From (AllX.cons ok_s_l01DrawSmall AllX.nil)))
theorem ev_s_R8Small (code : (List Int)) : evalF E_s_R8Small noL Try.f20 [.ro false (.slice (.int .u8))] (.one true tVec) (code, ()) = g_s_R8Small code := by kernel_rfl
def m_s_R8Small : FM := { ps := [.ro false (.slice (.int .u8))], res := .one true tVec, run := fun x => g_s_R8Small x.1 }
set_option maxRecDepth 4000 in
theorem ok_s_R8Small : FmOK Try.prog 20 m_s_R8Small := @FmOK.made Try.prog E_s_R8Small ek_s_R8Small 20 Try.f20 noL m_s_R8Small Try.func20 (by kernel_rfl) (Loops.none (by kernel_rfl)) fun ds out _ hr => by obtain ⟨code, ⟨⟩⟩ := ds; exact (ev_s_R8Small code).trans hr

def E_w_r8At : Tabs := (mkE tab [] [])
set_option maxRecDepth 4000 in
theorem ek_w_r8At : EnvOK Try.prog E_w_r8At := (mkE_ok tab_ok mixed AllF.nil AllX.nil)
theorem ev_w_r8At (code : (List Int)) (k : Int) (n : Int) : evalF E_w_r8At noL Try.f21 [.ro false (.slice (.int .u8)), .ro false (.int .i64), .ro false (.int .i64)] (.one false (.int .i64)) (code, k, n, ()) = g_w_r8At code k n := by kernel_rfl
def m_w_r8At : FM := { ps := [.ro false (.slice (.int .u8)), .ro false (.int .i64), .ro false (.int .i64)], res := .one false (.int .i64), run := fun x => g_w_r8At x.1 x.2.1 x.2.2.1 }
set_option maxRecDepth 4000 in
theorem ok_w_r8At : FmOK Try.prog 21 m_w_r8At := @FmOK.made Try.prog E_w_r8At ek_w_r8At 21 Try.f21 noL m_w_r8At Try.func21 (by kernel_rfl) (Loops.none (by kernel_rfl)) fun ds out _ hr => by obtain ⟨code, k, n, ⟨⟩⟩ := ds; exact (ev_w_r8At code k n).trans hr

theorem xr_bits (b : Nat) (w : World) : (callFunc 67 #[.float .f64 b]).run Try.prog w = .ok (.value (.int .u64 b)) w := by
  rw [run_callFunc_extern (e := Extern.MathFloatBits.float64bits) Try.func67 rfl rfl (by kernel_rfl) (by kernel_rfl)]; rfl
theorem xr_from (n : Int) (w : World) : (callFunc 75 #[.int .u64 n]).run Try.prog w = .ok (.value (.float .f64 n.toNat)) w := by
  rw [run_callFunc_extern (e := Extern.MathFloatBits.float64frombits) Try.func75 rfl rfl (by kernel_rfl) (by kernel_rfl)]; rfl

set_option maxHeartbeats 400000 in
theorem xr_abs (b : Nat) (w : World) : Calls Try.prog 62 #[.float .f64 b] w fun e w' => e = .returned (.float .f64 (iandNot .u64 b (2 ^ 63)).toNat) ∧ w' = w := by
  have h1 := xr_bits
  have h2 := xr_from
  go_enter Try.func62, Try.ntmps62
  go_wp2
  go_ret
  exact ⟨rfl, rfl⟩
set_option maxRecDepth 4000 in
theorem ok_mathabs : FmOK Try.prog 62 m_mathabs := FmOK.abs Try.func62 rfl (by kernel_rfl) xr_abs

def E_i_IsSubnormal : Tabs := (mkE tab [(62, m_mathabs)] [])
set_option maxRecDepth 4000 in
theorem ek_i_IsSubnormal : EnvOK Try.prog E_i_IsSubnormal := (mkE_ok tab_ok mixed (AllF.cons ok_mathabs AllF.nil) AllX.nil)
theorem ev_i_IsSubnormal (xx : Nat) : evalF E_i_IsSubnormal noL Try.f42 [.ro false (.flt .f32)] (.one false .bool) (xx, ()) = g_i_IsSubnormal xx := by kernel_rfl
def m_i_IsSubnormal : FM := { ps := [.ro false (.flt .f32)], res := .one false .bool, run := fun x => some (t_i_IsSubnormal x.1) }
set_option maxRecDepth 4000 in
theorem ok_i_IsSubnormal : FmOK Try.prog 42 m_i_IsSubnormal := @FmOK.made Try.prog E_i_IsSubnormal ek_i_IsSubnormal 42 Try.f42 noL m_i_IsSubnormal Try.func42 (by kernel_rfl) (Loops.none (by kernel_rfl)) fun ds out _ hr => by obtain ⟨xx, ⟨⟩⟩ := ds; exact (ev_i_IsSubnormal xx).trans ((q_i_IsSubnormal xx).trans hr)

set_option maxRecDepth 4000 in
theorem ok_float64bits : FmOK Try.prog 67 m_float64bits := FmOK.bits (e := Extern.MathFloatBits.float64bits) Try.func67 (by kernel_rfl) rfl (by kernel_rfl) (by kernel_rfl) (fun _ _ => rfl) (by decide) (by decide)

set_option maxRecDepth 4000 in
theorem ok_float64frombits : FmOK Try.prog 75 m_float64frombits := FmOK.from (e := Extern.MathFloatBits.float64frombits) Try.func75 (by kernel_rfl) rfl (by kernel_rfl) (by kernel_rfl) (fun _ _ => rfl) (by decide) (by decide)

def E_math_Copysign : Tabs := (mkE tab [(67, m_float64bits), (75, m_float64frombits)] [])
set_option maxRecDepth 4000 in
theorem ek_math_Copysign : EnvOK Try.prog E_math_Copysign := (mkE_ok tab_ok mixed (AllF.cons ok_float64bits (AllF.cons ok_float64frombits AllF.nil)) AllX.nil)
theorem ev_math_Copysign (f : Nat) (sign : Nat) : evalF E_math_Copysign noL Try.f68 [.ro false (.flt .f64), .ro false (.flt .f64)] (.one false (.flt .f64)) (f, sign, ()) = g_math_Copysign f sign := by kernel_rfl
def m_math_Copysign : FM := { ps := [.ro false (.flt .f64), .ro false (.flt .f64)], res := .one false (.flt .f64), run := fun x => g_math_Copysign x.1 x.2.1 }
set_option maxRecDepth 4000 in
theorem ok_math_Copysign : FmOK Try.prog 68 m_math_Copysign := @FmOK.made Try.prog E_math_Copysign ek_math_Copysign 68 Try.f68 noL m_math_Copysign Try.func68 (by kernel_rfl) (Loops.none (by kernel_rfl)) fun ds out _ hr => by obtain ⟨f, sign, ⟨⟩⟩ := ds; exact (ev_math_Copysign f sign).trans hr

def E_i_FlushNumber : Tabs := (mkE tab [(42, m_i_IsSubnormal), (68, m_math_Copysign)] [])
set_option maxRecDepth 4000 in
theorem ek_i_FlushNumber : EnvOK Try.prog E_i_FlushNumber := (mkE_ok tab_ok mixed (AllF.cons ok_i_IsSubnormal (AllF.cons ok_math_Copysign AllF.nil)) AllX.nil)
theorem ev_i_FlushNumber (xx : Nat) : evalF E_i_FlushNumber noL Try.f57 [.ro false (.flt .f32)] (.one false (.flt .f32)) (xx, ()) = g_i_FlushNumber xx := by kernel_rfl
def m_i_FlushNumber : FM := { ps := [.ro false (.flt .f32)], res := .one false (.flt .f32), run := fun x => g_i_FlushNumber x.1 }
set_option maxRecDepth 4000 in
theorem ok_i_FlushNumber : FmOK Try.prog 57 m_i_FlushNumber := @FmOK.made Try.prog E_i_FlushNumber ek_i_FlushNumber 57 Try.f57 noL m_i_FlushNumber Try.func57 (by kernel_rfl) (Loops.none (by kernel_rfl)) fun ds out _ hr => by obtain ⟨xx, ⟨⟩⟩ := ds; exact (ev_i_FlushNumber xx).trans hr

def E_i_drawn : Tabs := (mkE tab [(57, m_i_FlushNumber)] [])
set_option maxRecDepth 4000 in
theorem ek_i_drawn : EnvOK Try.prog E_i_drawn := (mkE_ok tab_ok mixed (AllF.cons ok_i_FlushNumber AllF.nil) AllX.nil)
theorem ev_i_drawn (place : Nat) (speed : Nat) (stiff : Nat) (damp : Nat) (goal : Nat) : evalF E_i_drawn noL Try.f49 [.ro false (.flt .f32), .ro false (.flt .f32), .ro false (.flt .f32), .ro false (.flt .f32), .ro false (.flt .f32)] (.tup [(false, (.flt .f32)), (false, (.flt .f32))]) (place, speed, stiff, damp, goal, ()) = g_i_drawn place speed stiff damp goal := by kernel_rfl
def m_i_drawn : FM := { ps := [.ro false (.flt .f32), .ro false (.flt .f32), .ro false (.flt .f32), .ro false (.flt .f32), .ro false (.flt .f32)], res := .tup [(false, (.flt .f32)), (false, (.flt .f32))], run := fun x => g_i_drawn x.1 x.2.1 x.2.2.1 x.2.2.2.1 x.2.2.2.2.1 }
set_option maxRecDepth 4000 in
theorem ok_i_drawn : FmOK Try.prog 49 m_i_drawn := @FmOK.made Try.prog E_i_drawn ek_i_drawn 49 Try.f49 noL m_i_drawn Try.func49 (by kernel_rfl) (Loops.none (by kernel_rfl)) fun ds out _ hr => by obtain ⟨place, speed, stiff, damp, goal, ⟨⟩⟩ := ds; exact (ev_i_drawn place speed stiff damp goal).trans hr

def E_i_StepSpring : Tabs := (mkE tab [(49, m_i_drawn)] [])
set_option maxRecDepth 4000 in
theorem ek_i_StepSpring : EnvOK Try.prog E_i_StepSpring := (mkE_ok tab_ok mixed (AllF.cons ok_i_drawn AllF.nil) AllX.nil)
theorem ev_i_StepSpring (s : dTurn) (goal : Nat) : evalF E_i_StepSpring noL Try.f17 [.ro true tTurn, .ro false (.flt .f32)] (.one true tTurn) (s, goal, ()) = g_i_StepSpring s goal := by kernel_rfl
def m_i_StepSpring : FM := { ps := [.ro true tTurn, .ro false (.flt .f32)], res := .one true tTurn, run := fun x => g_i_StepSpring x.1 x.2.1 }
set_option maxRecDepth 4000 in
theorem ok_i_StepSpring : FmOK Try.prog 17 m_i_StepSpring := @FmOK.made Try.prog E_i_StepSpring ek_i_StepSpring 17 Try.f17 noL m_i_StepSpring Try.func17 (by kernel_rfl) (Loops.none (by kernel_rfl)) fun ds out _ hr => by obtain ⟨s, goal, ⟨⟩⟩ := ds; exact (ev_i_StepSpring s goal).trans hr

def E_math_Signbit : Tabs := (mkE tab [(67, m_float64bits)] [])
set_option maxRecDepth 4000 in
theorem ek_math_Signbit : EnvOK Try.prog E_math_Signbit := (mkE_ok tab_ok mixed (AllF.cons ok_float64bits AllF.nil) AllX.nil)
theorem ev_math_Signbit (xx : Nat) : evalF E_math_Signbit noL Try.f56 [.ro false (.flt .f64)] (.one false .bool) (xx, ()) = g_math_Signbit xx := by kernel_rfl
def m_math_Signbit : FM := { ps := [.ro false (.flt .f64)], res := .one false .bool, run := fun x => g_math_Signbit x.1 }
set_option maxRecDepth 4000 in
theorem ok_math_Signbit : FmOK Try.prog 56 m_math_Signbit := @FmOK.made Try.prog E_math_Signbit ek_math_Signbit 56 Try.f56 noL m_math_Signbit Try.func56 (by kernel_rfl) (Loops.none (by kernel_rfl)) fun ds out _ hr => by obtain ⟨xx, ⟨⟩⟩ := ds; exact (ev_math_Signbit xx).trans hr

def E_i_SameNumber : Tabs := (mkE tab [(56, m_math_Signbit)] [])
set_option maxRecDepth 4000 in
theorem ek_i_SameNumber : EnvOK Try.prog E_i_SameNumber := (mkE_ok tab_ok mixed (AllF.cons ok_math_Signbit AllF.nil) AllX.nil)
theorem ev_i_SameNumber (a : Nat) (b : Nat) : evalF E_i_SameNumber noL Try.f32 [.ro false (.flt .f32), .ro false (.flt .f32)] (.one false .bool) (a, b, ()) = g_i_SameNumber a b := by kernel_rfl
def m_i_SameNumber : FM := { ps := [.ro false (.flt .f32), .ro false (.flt .f32)], res := .one false .bool, run := fun x => g_i_SameNumber x.1 x.2.1 }
set_option maxRecDepth 4000 in
theorem ok_i_SameNumber : FmOK Try.prog 32 m_i_SameNumber := @FmOK.made Try.prog E_i_SameNumber ek_i_SameNumber 32 Try.f32 noL m_i_SameNumber Try.func32 (by kernel_rfl) (Loops.none (by kernel_rfl)) fun ds out _ hr => by obtain ⟨a, b, ⟨⟩⟩ := ds; exact (ev_i_SameNumber a b).trans hr

def E_i_SameSpring : Tabs := (mkE tab [(32, m_i_SameNumber)] [])
set_option maxRecDepth 4000 in
theorem ek_i_SameSpring : EnvOK Try.prog E_i_SameSpring := (mkE_ok tab_ok mixed (AllF.cons ok_i_SameNumber AllF.nil) AllX.nil)
theorem ev_i_SameSpring (a : dTurn) (b : dTurn) : evalF E_i_SameSpring noL Try.f15 [.ro true tTurn, .ro true tTurn] (.one false .bool) (a, b, ()) = g_i_SameSpring a b := by kernel_rfl
def m_i_SameSpring : FM := { ps := [.ro true tTurn, .ro true tTurn], res := .one false .bool, run := fun x => g_i_SameSpring x.1 x.2.1 }
set_option maxRecDepth 4000 in
theorem ok_i_SameSpring : FmOK Try.prog 15 m_i_SameSpring := @FmOK.made Try.prog E_i_SameSpring ek_i_SameSpring 15 Try.f15 noL m_i_SameSpring Try.func15 (by kernel_rfl) (Loops.none (by kernel_rfl)) fun ds out _ hr => by obtain ⟨a, b, ⟨⟩⟩ := ds; exact (ev_i_SameSpring a b).trans hr

def E_i_RestOfSpring : Tabs := (mkE tab [(17, m_i_StepSpring), (15, m_i_SameSpring)] [])
set_option maxRecDepth 4000 in
theorem ek_i_RestOfSpring : EnvOK Try.prog E_i_RestOfSpring := (mkE_ok tab_ok mixed (AllF.cons ok_i_StepSpring (AllF.cons ok_i_SameSpring AllF.nil)) AllX.nil)
def lm_L_i_RestOfSpring_1 : LM := { mat := [], head := { slots := [(1, .dat false (.flt .f32)), (2, .dat false (.int .i64)), (3, .cst (.ptr (.box 0 0))), (6, .dat false (.int .i64)), (7, .dat false .bool), (8, .dat false (.int .i64))], blks := [.box [.dat tTurn]] }, out := { slots := [(6, .dat false (.int .i64)), (7, .dat false .bool)], blks := [.dead] }, ex := 0, rets := true, run := iter L_i_RestOfSpring_1 fuel }
def ll_i_RestOfSpring : List (Nat × LP) := [(4, .lm lm_L_i_RestOfSpring_1)]
theorem rd_L_i_RestOfSpring_1 (rec' : (Nat × Int × Int × Bool × Int × Unit) × ((dTurn × Unit) × Unit) → Option (Bool × ((Int × Bool × Unit) × (Unit)))) (goal : Nat) (most : Int) (t6 : Int) (t7 : Bool) (n : Int) (b0 : dTurn) : round E_i_RestOfSpring (lookL ll_i_RestOfSpring) lm_L_i_RestOfSpring_1 29 (loopAt Try.f22 0) rec' ((goal, most, t6, t7, n, ()), ((b0, ()), ())) = L_i_RestOfSpring_1 rec' ((goal, most, t6, t7, n, ()), ((b0, ()), ())) := by kernel_rfl
theorem lo_i_RestOfSpring : Loops E_i_RestOfSpring (lookL ll_i_RestOfSpring) Try.f22 := Loops.list (by kernel_rfl) (by kernel_rfl) ⟨LoopOK.iter (step := L_i_RestOfSpring_1) (N := fun _ => fuel) (fun rec' x => by obtain ⟨⟨goal, most, t6, t7, n, ⟨⟩⟩, ⟨⟨b0, ⟨⟩⟩, ⟨⟩⟩⟩ := x; exact rd_L_i_RestOfSpring_1 rec' goal most t6 t7 n b0) fun _ => rfl, trivial⟩
theorem ev_i_RestOfSpring (s : dTurn) (goal : Nat) (most : Int) : evalF E_i_RestOfSpring (lookL ll_i_RestOfSpring) Try.f22 [.ro true tTurn, .ro false (.flt .f32), .ro false (.int .i64)] (.tup [(false, (.int .i64)), (false, .bool)]) (s, goal, most, ()) = g_i_RestOfSpring s goal most := by kernel_rfl
def m_i_RestOfSpring : FM := { ps := [.ro true tTurn, .ro false (.flt .f32), .ro false (.int .i64)], res := .tup [(false, (.int .i64)), (false, .bool)], run := fun x => g_i_RestOfSpring x.1 x.2.1 x.2.2.1 }
set_option maxRecDepth 4000 in
theorem ok_i_RestOfSpring : FmOK Try.prog 22 m_i_RestOfSpring := @FmOK.made Try.prog E_i_RestOfSpring ek_i_RestOfSpring 22 Try.f22 (lookL ll_i_RestOfSpring) m_i_RestOfSpring Try.func22 (by kernel_rfl) lo_i_RestOfSpring fun ds out _ hr => by obtain ⟨s, goal, most, ⟨⟩⟩ := ds; exact (ev_i_RestOfSpring s goal most).trans hr

def E_w_r8Gap : Tabs := (mkE tab [] [])
set_option maxRecDepth 4000 in
theorem ek_w_r8Gap : EnvOK Try.prog E_w_r8Gap := (mkE_ok tab_ok mixed AllF.nil AllX.nil)
theorem ev_w_r8Gap (a : Nat) (b : Nat) : evalF E_w_r8Gap noL Try.f23 [.ro false (.flt .f64), .ro false (.flt .f64)] (.one false (.flt .f64)) (a, b, ()) = g_w_r8Gap a b := by kernel_rfl
def m_w_r8Gap : FM := { ps := [.ro false (.flt .f64), .ro false (.flt .f64)], res := .one false (.flt .f64), run := fun x => some (t_w_r8Gap x.1 x.2.1) }
set_option maxRecDepth 4000 in
theorem ok_w_r8Gap : FmOK Try.prog 23 m_w_r8Gap := @FmOK.made Try.prog E_w_r8Gap ek_w_r8Gap 23 Try.f23 noL m_w_r8Gap Try.func23 (by kernel_rfl) (Loops.none (by kernel_rfl)) fun ds out _ hr => by obtain ⟨a, b, ⟨⟩⟩ := ds; exact (ev_w_r8Gap a b).trans ((q_w_r8Gap a b).trans hr)

def E_w_FnSpringRests : Tabs := (mkE tab [(19, m_w_r8Long), (20, m_s_R8Small), (21, m_w_r8At), (22, m_i_RestOfSpring), (17, m_i_StepSpring), (15, m_i_SameSpring), (23, m_w_r8Gap)] [])
set_option maxRecDepth 4000 in
theorem ek_w_FnSpringRests : EnvOK Try.prog E_w_FnSpringRests := (mkE_ok tab_ok mixed (AllF.cons ok_w_r8Long (AllF.cons ok_s_R8Small (AllF.cons ok_w_r8At (AllF.cons ok_i_RestOfSpring (AllF.cons ok_i_StepSpring (AllF.cons ok_i_SameSpring (AllF.cons ok_w_r8Gap AllF.nil))))))) AllX.nil)
def lm_L_w_FnSpringRests_2 : LM := { mat := [], head := { slots := [(9, .cst (.ptr (.box 2 0))), (12, .dat false (.flt .f64)), (13, .dat false (.int .i64))], blks := [.dead, .dead, .box [.dat tTurn]] }, out := { slots := [(9, .cst (.ptr (.box 2 0))), (12, .dat false (.flt .f64))], blks := [.dead, .dead, .box [.dat tTurn]] }, ex := 2, rets := false, run := iter L_w_FnSpringRests_2 fuel }
def lm_L_w_FnSpringRests_1 : LM := { mat := [], head := { slots := [(4, .dat false .bool), (7, .dat false (.int .i64)), (9, .cst (.ptr (.box 2 0))), (10, .dat false (.int .i64))], blks := [.dead, .dead, .box [.dat tTurn]] }, out := { slots := [(4, .dat false .bool), (9, .cst (.ptr (.box 2 0)))], blks := [.dead, .dead, .box [.dat tTurn]] }, ex := 0, rets := true, run := iter L_w_FnSpringRests_1 fuel }
def ll_w_FnSpringRests : List (Nat × LP) := [(10, .lm lm_L_w_FnSpringRests_1), (18, .lm lm_L_w_FnSpringRests_2)]
theorem rd_L_w_FnSpringRests_2 (rec' : (Nat × Int × Unit) × ((dTurn × Unit) × Unit) → Option ((Nat × Unit) × ((dTurn × Unit) × Unit))) (low : Nat) (k : Int) (b2 : dTurn) : round E_w_FnSpringRests (lookL ll_w_FnSpringRests) lm_L_w_FnSpringRests_2 84 (loopAt Try.f5 1) rec' ((low, k, ()), ((b2, ()), ())) = L_w_FnSpringRests_2 rec' ((low, k, ()), ((b2, ()), ())) := by kernel_rfl
theorem rd_L_w_FnSpringRests_1 (rec' : (Bool × Int × Int × Unit) × ((dTurn × Unit) × Unit) → Option (Bool × ((Bool × Unit) × ((dTurn × Unit) × Unit)))) (t4 : Bool) (n : Int) (k : Int) (b2 : dTurn) : round E_w_FnSpringRests (lookL ll_w_FnSpringRests) lm_L_w_FnSpringRests_1 84 (loopAt Try.f5 0) rec' ((t4, n, k, ()), ((b2, ()), ())) = L_w_FnSpringRests_1 rec' ((t4, n, k, ()), ((b2, ()), ())) := by kernel_rfl
theorem lo_w_FnSpringRests : Loops E_w_FnSpringRests (lookL ll_w_FnSpringRests) Try.f5 := Loops.list (by kernel_rfl) (by kernel_rfl) ⟨LoopOK.iter (step := L_w_FnSpringRests_1) (N := fun _ => fuel) (fun rec' x => by obtain ⟨⟨t4, n, k, ⟨⟩⟩, ⟨⟨b2, ⟨⟩⟩, ⟨⟩⟩⟩ := x; exact rd_L_w_FnSpringRests_1 rec' t4 n k b2) fun _ => rfl, LoopOK.iter (step := L_w_FnSpringRests_2) (N := fun _ => fuel) (fun rec' x => by obtain ⟨⟨low, k, ⟨⟩⟩, ⟨⟨b2, ⟨⟩⟩, ⟨⟩⟩⟩ := x; exact rd_L_w_FnSpringRests_2 rec' low k b2) fun _ => rfl, trivial⟩
theorem ev_w_FnSpringRests (code : (List Int)) (more : (List Int)) : evalF E_w_FnSpringRests (lookL ll_w_FnSpringRests) Try.f5 [.ro false (.slice (.int .u8)), .ro false (.slice (.int .u8))] (.one false .bool) (code, more, ()) = g_w_FnSpringRests code more := by kernel_rfl
end
end Go.Fw.S
