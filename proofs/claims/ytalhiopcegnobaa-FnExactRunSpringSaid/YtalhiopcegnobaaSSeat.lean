/- The functions of the translation compute what the plain functions compute. No condition. -/
import Derived.Test.YtalhiopcegnobaaSPure
import Derived.Test.YtalhiopcegnobaaProg
import Derived.KernelRfl
set_option linter.unusedVariables false
namespace Go.Fw.S
open Go.Fw Go.Proofs Go.RowKit
def tab : List (Nat × TI) := [
  (2, { und := .int .i64, size := 1, bytes := 8, zero := [.int .i64 0], ty := (.int .i64) }),
  (3, { und := .int .i64, size := 1, bytes := 8, zero := [.int .i64 0], ty := (.int .i64) }),
  (4, { und := .bool, size := 1, bytes := 1, zero := [.bool false], ty := .bool }),
  (22, { und := .flt .f32, size := 1, bytes := 4, zero := [.flt .f32 0], ty := (.flt .f32) }),
  (24, { und := .struct [(0, 22), (1, 22), (2, 22), (3, 22)], size := 4, bytes := 16, zero := [.flt .f32 0, .flt .f32 0, .flt .f32 0, .flt .f32 0], ty := tTurn }),
  (26, { und := .struct [(0, 22), (1, 22), (2, 22), (3, 22)], size := 4, bytes := 16, zero := [.flt .f32 0, .flt .f32 0, .flt .f32 0, .flt .f32 0], ty := tTurn }),
  (39, { und := .flt .f64, size := 1, bytes := 8, zero := [.flt .f64 0], ty := (.flt .f64) }),
  (54, { und := .slice 22, size := 1, bytes := 24, zero := [.sl .nil], ty := (.slice (.flt .f32)) }),
  (89, { und := .int .u64, size := 1, bytes := 8, zero := [.int .u64 0], ty := (.int .u64) }),
  (102, { und := .int .u32, size := 1, bytes := 4, zero := [.int .u32 0], ty := (.int .u32) })]
theorem tab_ok : TabOK Try.prog (lookT tab) := tabB_spec (by kernel_rfl)
theorem mixed : Try.prog.follows .mixedOrders = true := by kernel_rfl
def E_w_toSpring : Tabs := (mkE tab [] [])
set_option maxRecDepth 4000 in
theorem ek_w_toSpring : EnvOK Try.prog E_w_toSpring := (mkE_ok tab_ok mixed AllF.nil AllX.nil)
theorem ev_w_toSpring (a : dTurn) : evalF E_w_toSpring noL Try.f14 [.ro true tTurn] (.one true tTurn) (a, ()) = g_w_toSpring a := by kernel_rfl
def m_w_toSpring : FM := { ps := [.ro true tTurn], res := .one true tTurn, run := fun x => some (t_w_toSpring x.1) }
set_option maxRecDepth 4000 in
theorem ok_w_toSpring : FmOK Try.prog 14 m_w_toSpring := @FmOK.made Try.prog E_w_toSpring ek_w_toSpring 14 Try.f14 noL m_w_toSpring Try.func14 (by kernel_rfl) (Loops.none (by kernel_rfl)) fun ds out _ hr => by obtain ⟨a, ⟨⟩⟩ := ds; exact (ev_w_toSpring a).trans ((q_w_toSpring a).trans hr)

def E_w_toFloat32S : Tabs := (mkE tab [] [])
set_option maxRecDepth 4000 in
theorem ek_w_toFloat32S : EnvOK Try.prog E_w_toFloat32S := (mkE_ok tab_ok mixed AllF.nil AllX.nil)
def lm_L_w_toFloat32S_1 : LM := { mat := [], head := { slots := [(0, .dat false (.slice (.flt .f32))), (3, .cst (.sl (.row 0))), (4, .dat false (.int .i64))], blks := [.row false (.flt .f32)] }, out := { slots := [(3, .cst (.sl (.row 0)))], blks := [.row false (.flt .f32)] }, ex := 0, rets := false, run := iter L_w_toFloat32S_1 fuel }
def ll_w_toFloat32S : List (Nat × LP) := [(3, .lm lm_L_w_toFloat32S_1)]
theorem rd_L_w_toFloat32S_1 (rec' : ((List Nat) × Int × Unit) × ((List Nat) × Unit) → Option ((Unit) × ((List Nat) × Unit))) (a : (List Nat)) (i : Int) (r0 : (List Nat)) : round E_w_toFloat32S (lookL ll_w_toFloat32S) lm_L_w_toFloat32S_1 22 (loopAt Try.f35 0) rec' ((a, i, ()), (r0, ())) = L_w_toFloat32S_1 rec' ((a, i, ()), (r0, ())) := by kernel_rfl
theorem lo_w_toFloat32S : Loops E_w_toFloat32S (lookL ll_w_toFloat32S) Try.f35 := Loops.list (by kernel_rfl) (by kernel_rfl) ⟨LoopOK.iter (step := L_w_toFloat32S_1) (N := fun _ => fuel) (fun rec' x => by obtain ⟨⟨a, i, ⟨⟩⟩, ⟨r0, ⟨⟩⟩⟩ := x; exact rd_L_w_toFloat32S_1 rec' a i r0) fun _ => rfl, trivial⟩
theorem ev_w_toFloat32S (a : (List Nat)) : evalF E_w_toFloat32S (lookL ll_w_toFloat32S) Try.f35 [.ro false (.slice (.flt .f32))] (.one false (.slice (.flt .f32))) (a, ()) = g_w_toFloat32S a := by kernel_rfl
def m_w_toFloat32S : FM := { ps := [.ro false (.slice (.flt .f32))], res := .one false (.slice (.flt .f32)), run := fun x => g_w_toFloat32S x.1 }
set_option maxRecDepth 4000 in
theorem ok_w_toFloat32S : FmOK Try.prog 35 m_w_toFloat32S := @FmOK.made Try.prog E_w_toFloat32S ek_w_toFloat32S 35 Try.f35 (lookL ll_w_toFloat32S) m_w_toFloat32S Try.func35 (by kernel_rfl) lo_w_toFloat32S fun ds out _ hr => by obtain ⟨a, ⟨⟩⟩ := ds; exact (ev_w_toFloat32S a).trans hr

set_option maxRecDepth 4000 in
theorem ok_float32bits : FmOK Try.prog 84 m_float32bits := FmOK.bits (e := Extern.MathFloatBits.float32bits) Try.func84 (by kernel_rfl) rfl (by kernel_rfl) (by kernel_rfl) (fun _ _ => rfl) (by decide) (by decide)

def E_s_l01Bits : Tabs := (mkE tab [(84, m_float32bits)] [])
set_option maxRecDepth 4000 in
theorem ek_s_l01Bits : EnvOK Try.prog E_s_l01Bits := (mkE_ok tab_ok mixed (AllF.cons ok_float32bits AllF.nil) AllX.nil)
theorem ev_s_l01Bits (xx : Nat) : evalF E_s_l01Bits noL Try.f77 [.ro false (.flt .f32)] (.one false (.int .i64)) (xx, ()) = g_s_l01Bits xx := by kernel_rfl
def m_s_l01Bits : FM := { ps := [.ro false (.flt .f32)], res := .one false (.int .i64), run := fun x => g_s_l01Bits x.1 }
set_option maxRecDepth 4000 in
theorem ok_s_l01Bits : FmOK Try.prog 77 m_s_l01Bits := @FmOK.made Try.prog E_s_l01Bits ek_s_l01Bits 77 Try.f77 noL m_s_l01Bits Try.func77 (by kernel_rfl) (Loops.none (by kernel_rfl)) fun ds out _ hr => by obtain ⟨xx, ⟨⟩⟩ := ds; exact (ev_s_l01Bits xx).trans hr

set_option maxRecDepth 4000 in
theorem ok_float32frombits : FmOK Try.prog 85 m_float32frombits := FmOK.from (e := Extern.MathFloatBits.float32frombits) Try.func85 (by kernel_rfl) rfl (by kernel_rfl) (by kernel_rfl) (fun _ _ => rfl) (by decide) (by decide)

def E_s_l01From : Tabs := (mkE tab [(85, m_float32frombits)] [])
set_option maxRecDepth 4000 in
theorem ek_s_l01From : EnvOK Try.prog E_s_l01From := (mkE_ok tab_ok mixed (AllF.cons ok_float32frombits AllF.nil) AllX.nil)
theorem ev_s_l01From (n : Int) : evalF E_s_l01From noL Try.f78 [.ro false (.int .i64)] (.one false (.flt .f32)) (n, ()) = g_s_l01From n := by kernel_rfl
def m_s_l01From : FM := { ps := [.ro false (.int .i64)], res := .one false (.flt .f32), run := fun x => some (t_s_l01From x.1) }
set_option maxRecDepth 4000 in
theorem ok_s_l01From : FmOK Try.prog 78 m_s_l01From := @FmOK.made Try.prog E_s_l01From ek_s_l01From 78 Try.f78 noL m_s_l01From Try.func78 (by kernel_rfl) (Loops.none (by kernel_rfl)) fun ds out _ hr => by obtain ⟨n, ⟨⟩⟩ := ds; exact (ev_s_l01From n).trans ((q_s_l01From n).trans hr)

def E_s_l01Flush : Tabs := (mkE tab [(77, m_s_l01Bits), (78, m_s_l01From)] [])
set_option maxRecDepth 4000 in
theorem ek_s_l01Flush : EnvOK Try.prog E_s_l01Flush := (mkE_ok tab_ok mixed (AllF.cons ok_s_l01Bits (AllF.cons ok_s_l01From AllF.nil)) AllX.nil)
theorem ev_s_l01Flush (xx : Nat) : evalF E_s_l01Flush noL Try.f66 [.ro false (.flt .f32)] (.one false (.flt .f32)) (xx, ()) = g_s_l01Flush xx := by kernel_rfl
def m_s_l01Flush : FM := { ps := [.ro false (.flt .f32)], res := .one false (.flt .f32), run := fun x => g_s_l01Flush x.1 }
set_option maxRecDepth 4000 in
theorem ok_s_l01Flush : FmOK Try.prog 66 m_s_l01Flush := @FmOK.made Try.prog E_s_l01Flush ek_s_l01Flush 66 Try.f66 noL m_s_l01Flush Try.func66 (by kernel_rfl) (Loops.none (by kernel_rfl)) fun ds out _ hr => by obtain ⟨xx, ⟨⟩⟩ := ds; exact (ev_s_l01Flush xx).trans hr

def E_s_l08Speed : Tabs := (mkE tab [(66, m_s_l01Flush)] [])
set_option maxRecDepth 4000 in
theorem ek_s_l08Speed : EnvOK Try.prog E_s_l08Speed := (mkE_ok tab_ok mixed (AllF.cons ok_s_l01Flush AllF.nil) AllX.nil)
theorem ev_s_l08Speed (place : Nat) (speed : Nat) (stiff : Nat) (damp : Nat) (goal : Nat) : evalF E_s_l08Speed noL Try.f65 [.ro false (.flt .f32), .ro false (.flt .f32), .ro false (.flt .f32), .ro false (.flt .f32), .ro false (.flt .f32)] (.one false (.flt .f32)) (place, speed, stiff, damp, goal, ()) = g_s_l08Speed place speed stiff damp goal := by kernel_rfl
def m_s_l08Speed : FM := { ps := [.ro false (.flt .f32), .ro false (.flt .f32), .ro false (.flt .f32), .ro false (.flt .f32), .ro false (.flt .f32)], res := .one false (.flt .f32), run := fun x => g_s_l08Speed x.1 x.2.1 x.2.2.1 x.2.2.2.1 x.2.2.2.2.1 }
set_option maxRecDepth 4000 in
theorem ok_s_l08Speed : FmOK Try.prog 65 m_s_l08Speed := @FmOK.made Try.prog E_s_l08Speed ek_s_l08Speed 65 Try.f65 noL m_s_l08Speed Try.func65 (by kernel_rfl) (Loops.none (by kernel_rfl)) fun ds out _ hr => by obtain ⟨place, speed, stiff, damp, goal, ⟨⟩⟩ := ds; exact (ev_s_l08Speed place speed stiff damp goal).trans hr

def E_s_l08Step : Tabs := (mkE tab [(65, m_s_l08Speed), (66, m_s_l01Flush)] [])
set_option maxRecDepth 4000 in
theorem ek_s_l08Step : EnvOK Try.prog E_s_l08Step := (mkE_ok tab_ok mixed (AllF.cons ok_s_l08Speed (AllF.cons ok_s_l01Flush AllF.nil)) AllX.nil)
theorem ev_s_l08Step (s : dTurn) (goal : Nat) : evalF E_s_l08Step noL Try.f48 [.ro true tTurn, .ro false (.flt .f32)] (.one true tTurn) (s, goal, ()) = g_s_l08Step s goal := by kernel_rfl
def m_s_l08Step : FM := { ps := [.ro true tTurn, .ro false (.flt .f32)], res := .one true tTurn, run := fun x => g_s_l08Step x.1 x.2.1 }
set_option maxRecDepth 4000 in
theorem ok_s_l08Step : FmOK Try.prog 48 m_s_l08Step := @FmOK.made Try.prog E_s_l08Step ek_s_l08Step 48 Try.f48 noL m_s_l08Step Try.func48 (by kernel_rfl) (Loops.none (by kernel_rfl)) fun ds out _ hr => by obtain ⟨s, goal, ⟨⟩⟩ := ds; exact (ev_s_l08Step s goal).trans hr

def E_s_RunSpring : Tabs := (mkE tab [(48, m_s_l08Step)] [])
set_option maxRecDepth 4000 in
theorem ek_s_RunSpring : EnvOK Try.prog E_s_RunSpring := (mkE_ok tab_ok mixed (AllF.cons ok_s_l08Step AllF.nil) AllX.nil)
def lm_L_s_RunSpring_1 : LM := { mat := [], head := { slots := [(1, .dat false (.slice (.flt .f32))), (2, .cst (.ptr (.box 0 0))), (5, .cst (.ptr (.box 1 0))), (7, .cst (.sl (.row 2))), (8, .dat false (.int .i64))], blks := [.box [.dat tTurn], .box [.dat tTurn], .row false (.flt .f32)] }, out := { slots := [(2, .cst (.ptr (.box 0 0))), (5, .cst (.ptr (.box 1 0))), (7, .cst (.sl (.row 2)))], blks := [.box [.dat tTurn], .box [.dat tTurn], .row false (.flt .f32)] }, ex := 0, rets := false, run := iter L_s_RunSpring_1 fuel }
def ll_s_RunSpring : List (Nat × LP) := [(5, .lm lm_L_s_RunSpring_1)]
theorem rd_L_s_RunSpring_1 (rec' : ((List Nat) × Int × Unit) × ((dTurn × Unit) × (dTurn × Unit) × (List Nat) × Unit) → Option ((Unit) × ((dTurn × Unit) × (dTurn × Unit) × (List Nat) × Unit))) (goals : (List Nat)) (i : Int) (b0 : dTurn) (b1 : dTurn) (r2 : (List Nat)) : round E_s_RunSpring (lookL ll_s_RunSpring) lm_L_s_RunSpring_1 33 (loopAt Try.f34 0) rec' ((goals, i, ()), ((b0, ()), (b1, ()), r2, ())) = L_s_RunSpring_1 rec' ((goals, i, ()), ((b0, ()), (b1, ()), r2, ())) := by kernel_rfl
theorem lo_s_RunSpring : Loops E_s_RunSpring (lookL ll_s_RunSpring) Try.f34 := Loops.list (by kernel_rfl) (by kernel_rfl) ⟨LoopOK.iter (step := L_s_RunSpring_1) (N := fun _ => fuel) (fun rec' x => by obtain ⟨⟨goals, i, ⟨⟩⟩, ⟨⟨b0, ⟨⟩⟩, ⟨b1, ⟨⟩⟩, r2, ⟨⟩⟩⟩ := x; exact rd_L_s_RunSpring_1 rec' goals i b0 b1 r2) fun _ => rfl, trivial⟩
theorem ev_s_RunSpring (s : dTurn) (goals : (List Nat)) : evalF E_s_RunSpring (lookL ll_s_RunSpring) Try.f34 [.ro true tTurn, .ro false (.slice (.flt .f32))] (.tup [(false, (.slice (.flt .f32))), (true, tTurn), (false, .bool)]) (s, goals, ()) = g_s_RunSpring s goals := by kernel_rfl
def m_s_RunSpring : FM := { ps := [.ro true tTurn, .ro false (.slice (.flt .f32))], res := .tup [(false, (.slice (.flt .f32))), (true, tTurn), (false, .bool)], run := fun x => g_s_RunSpring x.1 x.2.1 }
set_option maxRecDepth 4000 in
theorem ok_s_RunSpring : FmOK Try.prog 34 m_s_RunSpring := @FmOK.made Try.prog E_s_RunSpring ek_s_RunSpring 34 Try.f34 (lookL ll_s_RunSpring) m_s_RunSpring Try.func34 (by kernel_rfl) lo_s_RunSpring fun ds out _ hr => by obtain ⟨s, goals, ⟨⟩⟩ := ds; exact (ev_s_RunSpring s goals).trans hr

theorem xr_bits (b : Nat) (w : World) : (callFunc 67 #[.float .f64 b]).run Try.prog w = .ok (.value (.int .u64 b)) w := by
  rw [run_callFunc_extern (e := Extern.MathFloatBits.float64bits) Try.func67 rfl rfl (by kernel_rfl) (by kernel_rfl)]; rfl
theorem xr_from (n : Int) (w : World) : (callFunc 75 #[.int .u64 n]).run Try.prog w = .ok (.value (.float .f64 n.toNat)) w := by
  rw [run_callFunc_extern (e := Extern.MathFloatBits.float64frombits) Try.func75 rfl rfl (by kernel_rfl) (by kernel_rfl)]; rfl

set_option maxHeartbeats 400000 in
theorem xr_abs (b : Nat) (w : World) : Calls Try.prog 62 #[.float .f64 b] w fun e w' => e = .returned (.float .f64 (iandNot .u64 b (2 ^ 63)).toNat) ∧ w' = w := by
  have h1 := xr_bits
  have h2 := xr_from
  go_enter Try.func62, Try.ntmps62
  go_wp2
  go_ret
  exact ⟨rfl, rfl⟩
set_option maxRecDepth 4000 in
theorem ok_mathabs : FmOK Try.prog 62 m_mathabs := FmOK.abs Try.func62 rfl (by kernel_rfl) xr_abs

def E_i_IsSubnormal : Tabs := (mkE tab [(62, m_mathabs)] [])
set_option maxRecDepth 4000 in
theorem ek_i_IsSubnormal : EnvOK Try.prog E_i_IsSubnormal := (mkE_ok tab_ok mixed (AllF.cons ok_mathabs AllF.nil) AllX.nil)
theorem ev_i_IsSubnormal (xx : Nat) : evalF E_i_IsSubnormal noL Try.f42 [.ro false (.flt .f32)] (.one false .bool) (xx, ()) = g_i_IsSubnormal xx := by kernel_rfl
def m_i_IsSubnormal : FM := { ps := [.ro false (.flt .f32)], res := .one false .bool, run := fun x => some (t_i_IsSubnormal x.1) }
set_option maxRecDepth 4000 in
theorem ok_i_IsSubnormal : FmOK Try.prog 42 m_i_IsSubnormal := @FmOK.made Try.prog E_i_IsSubnormal ek_i_IsSubnormal 42 Try.f42 noL m_i_IsSubnormal Try.func42 (by kernel_rfl) (Loops.none (by kernel_rfl)) fun ds out _ hr => by obtain ⟨xx, ⟨⟩⟩ := ds; exact (ev_i_IsSubnormal xx).trans ((q_i_IsSubnormal xx).trans hr)

set_option maxRecDepth 4000 in
theorem ok_float64bits : FmOK Try.prog 67 m_float64bits := FmOK.bits (e := Extern.MathFloatBits.float64bits) Try.func67 (by kernel_rfl) rfl (by kernel_rfl) (by kernel_rfl) (fun _ _ => rfl) (by decide) (by decide)

set_option maxRecDepth 4000 in
theorem ok_float64frombits : FmOK Try.prog 75 m_float64frombits := FmOK.from (e := Extern.MathFloatBits.float64frombits) Try.func75 (by kernel_rfl) rfl (by kernel_rfl) (by kernel_rfl) (fun _ _ => rfl) (by decide) (by decide)

def E_math_Copysign : Tabs := (mkE tab [(67, m_float64bits), (75, m_float64frombits)] [])
set_option maxRecDepth 4000 in
theorem ek_math_Copysign : EnvOK Try.prog E_math_Copysign := (mkE_ok tab_ok mixed (AllF.cons ok_float64bits (AllF.cons ok_float64frombits AllF.nil)) AllX.nil)
theorem ev_math_Copysign (f : Nat) (sign : Nat) : evalF E_math_Copysign noL Try.f68 [.ro false (.flt .f64), .ro false (.flt .f64)] (.one false (.flt .f64)) (f, sign, ()) = g_math_Copysign f sign := by kernel_rfl
def m_math_Copysign : FM := { ps := [.ro false (.flt .f64), .ro false (.flt .f64)], res := .one false (.flt .f64), run := fun x => g_math_Copysign x.1 x.2.1 }
set_option maxRecDepth 4000 in
theorem ok_math_Copysign : FmOK Try.prog 68 m_math_Copysign := @FmOK.made Try.prog E_math_Copysign ek_math_Copysign 68 Try.f68 noL m_math_Copysign Try.func68 (by kernel_rfl) (Loops.none (by kernel_rfl)) fun ds out _ hr => by obtain ⟨f, sign, ⟨⟩⟩ := ds; exact (ev_math_Copysign f sign).trans hr

def E_i_FlushNumber : Tabs := (mkE tab [(42, m_i_IsSubnormal), (68, m_math_Copysign)] [])
set_option maxRecDepth 4000 in
theorem ek_i_FlushNumber : EnvOK Try.prog E_i_FlushNumber := (mkE_ok tab_ok mixed (AllF.cons ok_i_IsSubnormal (AllF.cons ok_math_Copysign AllF.nil)) AllX.nil)
theorem ev_i_FlushNumber (xx : Nat) : evalF E_i_FlushNumber noL Try.f57 [.ro false (.flt .f32)] (.one false (.flt .f32)) (xx, ()) = g_i_FlushNumber xx := by kernel_rfl
def m_i_FlushNumber : FM := { ps := [.ro false (.flt .f32)], res := .one false (.flt .f32), run := fun x => g_i_FlushNumber x.1 }
set_option maxRecDepth 4000 in
theorem ok_i_FlushNumber : FmOK Try.prog 57 m_i_FlushNumber := @FmOK.made Try.prog E_i_FlushNumber ek_i_FlushNumber 57 Try.f57 noL m_i_FlushNumber Try.func57 (by kernel_rfl) (Loops.none (by kernel_rfl)) fun ds out _ hr => by obtain ⟨xx, ⟨⟩⟩ := ds; exact (ev_i_FlushNumber xx).trans hr

def E_i_drawn : Tabs := (mkE tab [(57, m_i_FlushNumber)] [])
set_option maxRecDepth 4000 in
theorem ek_i_drawn : EnvOK Try.prog E_i_drawn := (mkE_ok tab_ok mixed (AllF.cons ok_i_FlushNumber AllF.nil) AllX.nil)
theorem ev_i_drawn (place : Nat) (speed : Nat) (stiff : Nat) (damp : Nat) (goal : Nat) : evalF E_i_drawn noL Try.f49 [.ro false (.flt .f32), .ro false (.flt .f32), .ro false (.flt .f32), .ro false (.flt .f32), .ro false (.flt .f32)] (.tup [(false, (.flt .f32)), (false, (.flt .f32))]) (place, speed, stiff, damp, goal, ()) = g_i_drawn place speed stiff damp goal := by kernel_rfl
def m_i_drawn : FM := { ps := [.ro false (.flt .f32), .ro false (.flt .f32), .ro false (.flt .f32), .ro false (.flt .f32), .ro false (.flt .f32)], res := .tup [(false, (.flt .f32)), (false, (.flt .f32))], run := fun x => g_i_drawn x.1 x.2.1 x.2.2.1 x.2.2.2.1 x.2.2.2.2.1 }
set_option maxRecDepth 4000 in
theorem ok_i_drawn : FmOK Try.prog 49 m_i_drawn := @FmOK.made Try.prog E_i_drawn ek_i_drawn 49 Try.f49 noL m_i_drawn Try.func49 (by kernel_rfl) (Loops.none (by kernel_rfl)) fun ds out _ hr => by obtain ⟨place, speed, stiff, damp, goal, ⟨⟩⟩ := ds; exact (ev_i_drawn place speed stiff damp goal).trans hr

def E_i_StepSpring : Tabs := (mkE tab [(49, m_i_drawn)] [])
set_option maxRecDepth 4000 in
theorem ek_i_StepSpring : EnvOK Try.prog E_i_StepSpring := (mkE_ok tab_ok mixed (AllF.cons ok_i_drawn AllF.nil) AllX.nil)
theorem ev_i_StepSpring (s : dTurn) (goal : Nat) : evalF E_i_StepSpring noL Try.f17 [.ro true tTurn, .ro false (.flt .f32)] (.one true tTurn) (s, goal, ()) = g_i_StepSpring s goal := by kernel_rfl
def m_i_StepSpring : FM := { ps := [.ro true tTurn, .ro false (.flt .f32)], res := .one true tTurn, run := fun x => g_i_StepSpring x.1 x.2.1 }
set_option maxRecDepth 4000 in
theorem ok_i_StepSpring : FmOK Try.prog 17 m_i_StepSpring := @FmOK.made Try.prog E_i_StepSpring ek_i_StepSpring 17 Try.f17 noL m_i_StepSpring Try.func17 (by kernel_rfl) (Loops.none (by kernel_rfl)) fun ds out _ hr => by obtain ⟨s, goal, ⟨⟩⟩ := ds; exact (ev_i_StepSpring s goal).trans hr

def E_i_RunSpring : Tabs := (mkE tab [(17, m_i_StepSpring)] [])
set_option maxRecDepth 4000 in
theorem ek_i_RunSpring : EnvOK Try.prog E_i_RunSpring := (mkE_ok tab_ok mixed (AllF.cons ok_i_StepSpring AllF.nil) AllX.nil)
def lm_L_i_RunSpring_1 : LM := { mat := [.slot 7 (.flt .f32)], head := { slots := [(2, .cst (.ptr (.box 0 0))), (5, .cst (.ptr (.box 1 0))), (7, .cst (.sl (.row 2))), (14, .dat false (.slice (.flt .f32))), (15, .dat false (.int .i64)), (16, .dat false (.int .i64))], blks := [.box [.dat tTurn], .box [.dat tTurn], .row false (.flt .f32)] }, out := { slots := [(2, .cst (.ptr (.box 0 0))), (5, .cst (.ptr (.box 1 0))), (7, .cst (.sl (.row 2)))], blks := [.box [.dat tTurn], .box [.dat tTurn], .row false (.flt .f32)] }, ex := 0, rets := false, run := iter L_i_RunSpring_1 fuel }
def ll_i_RunSpring : List (Nat × LP) := [(5, .lm lm_L_i_RunSpring_1)]
theorem rd_L_i_RunSpring_1 (rec' : ((List Nat) × Int × Int × Unit) × ((dTurn × Unit) × (dTurn × Unit) × (List Nat) × Unit) → Option ((Unit) × ((dTurn × Unit) × (dTurn × Unit) × (List Nat) × Unit))) (t14 : (List Nat)) (t15 : Int) (t16 : Int) (b0 : dTurn) (b1 : dTurn) (r2 : (List Nat)) : round E_i_RunSpring (lookL ll_i_RunSpring) lm_L_i_RunSpring_1 31 (loopAt Try.f36 0) rec' ((t14, t15, t16, ()), ((b0, ()), (b1, ()), r2, ())) = L_i_RunSpring_1 rec' ((t14, t15, t16, ()), ((b0, ()), (b1, ()), r2, ())) := by kernel_rfl
theorem lo_i_RunSpring : Loops E_i_RunSpring (lookL ll_i_RunSpring) Try.f36 := Loops.list (by kernel_rfl) (by kernel_rfl) ⟨LoopOK.iter (step := L_i_RunSpring_1) (N := fun _ => fuel) (fun rec' x => by obtain ⟨⟨t14, t15, t16, ⟨⟩⟩, ⟨⟨b0, ⟨⟩⟩, ⟨b1, ⟨⟩⟩, r2, ⟨⟩⟩⟩ := x; exact rd_L_i_RunSpring_1 rec' t14 t15 t16 b0 b1 r2) fun _ => rfl, trivial⟩
theorem ev_i_RunSpring (s : dTurn) (goals : (List Nat)) : evalF E_i_RunSpring (lookL ll_i_RunSpring) Try.f36 [.ro true tTurn, .ro false (.slice (.flt .f32))] (.tup [(false, (.slice (.flt .f32))), (true, tTurn), (false, .bool)]) (s, goals, ()) = g_i_RunSpring s goals := by kernel_rfl
def m_i_RunSpring : FM := { ps := [.ro true tTurn, .ro false (.slice (.flt .f32))], res := .tup [(false, (.slice (.flt .f32))), (true, tTurn), (false, .bool)], run := fun x => g_i_RunSpring x.1 x.2.1 }
set_option maxRecDepth 4000 in
theorem ok_i_RunSpring : FmOK Try.prog 36 m_i_RunSpring := @FmOK.made Try.prog E_i_RunSpring ek_i_RunSpring 36 Try.f36 (lookL ll_i_RunSpring) m_i_RunSpring Try.func36 (by kernel_rfl) lo_i_RunSpring fun ds out _ hr => by obtain ⟨s, goals, ⟨⟩⟩ := ds; exact (ev_i_RunSpring s goals).trans hr

def E_w_sameFloat : Tabs := (mkE tab [] [])
set_option maxRecDepth 4000 in
theorem ek_w_sameFloat : EnvOK Try.prog E_w_sameFloat := (mkE_ok tab_ok mixed AllF.nil AllX.nil)
theorem ev_w_sameFloat (a : Nat) (b : Nat) : evalF E_w_sameFloat noL Try.f50 [.ro false (.flt .f64), .ro false (.flt .f64)] (.one false .bool) (a, b, ()) = g_w_sameFloat a b := by kernel_rfl
def m_w_sameFloat : FM := { ps := [.ro false (.flt .f64), .ro false (.flt .f64)], res := .one false .bool, run := fun x => some (t_w_sameFloat x.1 x.2.1) }
set_option maxRecDepth 4000 in
theorem ok_w_sameFloat : FmOK Try.prog 50 m_w_sameFloat := @FmOK.made Try.prog E_w_sameFloat ek_w_sameFloat 50 Try.f50 noL m_w_sameFloat Try.func50 (by kernel_rfl) (Loops.none (by kernel_rfl)) fun ds out _ hr => by obtain ⟨a, b, ⟨⟩⟩ := ds; exact (ev_w_sameFloat a b).trans ((q_w_sameFloat a b).trans hr)

def E_w_eqFloat32S : Tabs := (mkE tab [(50, m_w_sameFloat)] [])
set_option maxRecDepth 4000 in
theorem ek_w_eqFloat32S : EnvOK Try.prog E_w_eqFloat32S := (mkE_ok tab_ok mixed (AllF.cons ok_w_sameFloat AllF.nil) AllX.nil)
def lm_L_w_eqFloat32S_1 : LM := { mat := [], head := { slots := [(0, .dat false (.slice (.flt .f32))), (1, .dat false (.slice (.flt .f32))), (4, .dat false .bool), (5, .dat false (.int .i64))], blks := [] }, out := { slots := [(4, .dat false .bool)], blks := [] }, ex := 0, rets := true, run := iter L_w_eqFloat32S_1 fuel }
def ll_w_eqFloat32S : List (Nat × LP) := [(4, .lm lm_L_w_eqFloat32S_1)]
theorem rd_L_w_eqFloat32S_1 (rec' : ((List Nat) × (List Nat) × Bool × Int × Unit) × (Unit) → Option (Bool × ((Bool × Unit) × (Unit)))) (a : (List Nat)) (b : (List Nat)) (t4 : Bool) (i : Int) : round E_w_eqFloat32S (lookL ll_w_eqFloat32S) lm_L_w_eqFloat32S_1 29 (loopAt Try.f37 0) rec' ((a, b, t4, i, ()), (())) = L_w_eqFloat32S_1 rec' ((a, b, t4, i, ()), (())) := by kernel_rfl
theorem lo_w_eqFloat32S : Loops E_w_eqFloat32S (lookL ll_w_eqFloat32S) Try.f37 := Loops.list (by kernel_rfl) (by kernel_rfl) ⟨LoopOK.iter (step := L_w_eqFloat32S_1) (N := fun _ => fuel) (fun rec' x => by obtain ⟨⟨a, b, t4, i, ⟨⟩⟩, ⟨⟨⟩⟩⟩ := x; exact rd_L_w_eqFloat32S_1 rec' a b t4 i) fun _ => rfl, trivial⟩
theorem ev_w_eqFloat32S (a : (List Nat)) (b : (List Nat)) : evalF E_w_eqFloat32S (lookL ll_w_eqFloat32S) Try.f37 [.ro false (.slice (.flt .f32)), .ro false (.slice (.flt .f32))] (.one false .bool) (a, b, ()) = g_w_eqFloat32S a b := by kernel_rfl
def m_w_eqFloat32S : FM := { ps := [.ro false (.slice (.flt .f32)), .ro false (.slice (.flt .f32))], res := .one false .bool, run := fun x => g_w_eqFloat32S x.1 x.2.1 }
set_option maxRecDepth 4000 in
theorem ok_w_eqFloat32S : FmOK Try.prog 37 m_w_eqFloat32S := @FmOK.made Try.prog E_w_eqFloat32S ek_w_eqFloat32S 37 Try.f37 (lookL ll_w_eqFloat32S) m_w_eqFloat32S Try.func37 (by kernel_rfl) lo_w_eqFloat32S fun ds out _ hr => by obtain ⟨a, b, ⟨⟩⟩ := ds; exact (ev_w_eqFloat32S a b).trans hr

def E_w_eqSpring : Tabs := (mkE tab [(50, m_w_sameFloat)] [])
set_option maxRecDepth 4000 in
theorem ek_w_eqSpring : EnvOK Try.prog E_w_eqSpring := (mkE_ok tab_ok mixed (AllF.cons ok_w_sameFloat AllF.nil) AllX.nil)
theorem ev_w_eqSpring (a : dTurn) (b : dTurn) : evalF E_w_eqSpring noL Try.f18 [.ro true tTurn, .ro true tTurn] (.one false .bool) (a, b, ()) = g_w_eqSpring a b := by kernel_rfl
def m_w_eqSpring : FM := { ps := [.ro true tTurn, .ro true tTurn], res := .one false .bool, run := fun x => some (t_w_eqSpring x.1 x.2.1) }
set_option maxRecDepth 4000 in
theorem ok_w_eqSpring : FmOK Try.prog 18 m_w_eqSpring := @FmOK.made Try.prog E_w_eqSpring ek_w_eqSpring 18 Try.f18 noL m_w_eqSpring Try.func18 (by kernel_rfl) (Loops.none (by kernel_rfl)) fun ds out _ hr => by obtain ⟨a, b, ⟨⟩⟩ := ds; exact (ev_w_eqSpring a b).trans ((q_w_eqSpring a b).trans hr)

def E_w_markFloat32S : Tabs := (mkE tab [] [])
set_option maxRecDepth 4000 in
theorem ek_w_markFloat32S : EnvOK Try.prog E_w_markFloat32S := (mkE_ok tab_ok mixed AllF.nil AllX.nil)
def lm_L_w_markFloat32S_1 : LM := { mat := [], head := { slots := [(0, .cst (.sl (.row 0))), (1, .dat false (.int .i64)), (5, .dat false (.int .i64))], blks := [.row true (.flt .f32)] }, out := { slots := [(1, .dat false (.int .i64))], blks := [.row true (.flt .f32)] }, ex := 0, rets := false, run := iter L_w_markFloat32S_1 fuel }
def ll_w_markFloat32S : List (Nat × LP) := [(2, .lm lm_L_w_markFloat32S_1)]
theorem rd_L_w_markFloat32S_1 (rec' : (Int × Int × Unit) × ((List Nat) × Unit) → Option ((Int × Unit) × ((List Nat) × Unit))) (k : Int) (i : Int) (r0 : (List Nat)) : round E_w_markFloat32S (lookL ll_w_markFloat32S) lm_L_w_markFloat32S_1 20 (loopAt Try.f38 0) rec' ((k, i, ()), (r0, ())) = L_w_markFloat32S_1 rec' ((k, i, ()), (r0, ())) := by kernel_rfl
theorem lo_w_markFloat32S : Loops E_w_markFloat32S (lookL ll_w_markFloat32S) Try.f38 := Loops.list (by kernel_rfl) (by kernel_rfl) ⟨LoopOK.iter (step := L_w_markFloat32S_1) (N := fun _ => fuel) (fun rec' x => by obtain ⟨⟨k, i, ⟨⟩⟩, ⟨r0, ⟨⟩⟩⟩ := x; exact rd_L_w_markFloat32S_1 rec' k i r0) fun _ => rfl, trivial⟩
theorem ev_w_markFloat32S (a : (List Nat)) (k : Int) : evalX E_w_markFloat32S (lookL ll_w_markFloat32S) Try.f38 [.own false (.slice (.flt .f32)), .ro false (.int .i64)] (.one false (.int .i64)) (a, k, ()) = g_w_markFloat32S a k := by kernel_rfl
def m_w_markFloat32S : FX := { ps := [.own false (.slice (.flt .f32)), .ro false (.int .i64)], res := .one false (.int .i64), run := fun x => g_w_markFloat32S x.1 x.2.1 }
set_option maxRecDepth 4000 in
theorem ok_w_markFloat32S : FxOK Try.prog 38 m_w_markFloat32S := @FxOK.made Try.prog E_w_markFloat32S ek_w_markFloat32S 38 Try.f38 (lookL ll_w_markFloat32S) m_w_markFloat32S Try.func38 (by kernel_rfl) lo_w_markFloat32S fun ds out _ hr => by obtain ⟨a, k, ⟨⟩⟩ := ds; exact (ev_w_markFloat32S a k).trans hr

def E_w_heldFloat32S : Tabs := (mkE tab [] [])
set_option maxRecDepth 4000 in
theorem ek_w_heldFloat32S : EnvOK Try.prog E_w_heldFloat32S := (mkE_ok tab_ok mixed AllF.nil AllX.nil)
def lm_L_w_heldFloat32S_1 : LM := { mat := [], head := { slots := [(0, .dat false (.slice (.flt .f32))), (1, .dat false (.int .i64)), (4, .dat false (.int .i64)), (5, .dat false (.int .i64))], blks := [] }, out := { slots := [(1, .dat false (.int .i64)), (4, .dat false (.int .i64))], blks := [] }, ex := 0, rets := true, run := iter L_w_heldFloat32S_1 fuel }
def ll_w_heldFloat32S : List (Nat × LP) := [(2, .lm lm_L_w_heldFloat32S_1)]
theorem rd_L_w_heldFloat32S_1 (rec' : ((List Nat) × Int × Int × Int × Unit) × (Unit) → Option (Bool × ((Int × Int × Unit) × (Unit)))) (a : (List Nat)) (k : Int) (t4 : Int) (i : Int) : round E_w_heldFloat32S (lookL ll_w_heldFloat32S) lm_L_w_heldFloat32S_1 22 (loopAt Try.f39 0) rec' ((a, k, t4, i, ()), (())) = L_w_heldFloat32S_1 rec' ((a, k, t4, i, ()), (())) := by kernel_rfl
theorem lo_w_heldFloat32S : Loops E_w_heldFloat32S (lookL ll_w_heldFloat32S) Try.f39 := Loops.list (by kernel_rfl) (by kernel_rfl) ⟨LoopOK.iter (step := L_w_heldFloat32S_1) (N := fun _ => fuel) (fun rec' x => by obtain ⟨⟨a, k, t4, i, ⟨⟩⟩, ⟨⟨⟩⟩⟩ := x; exact rd_L_w_heldFloat32S_1 rec' a k t4 i) fun _ => rfl, trivial⟩
theorem ev_w_heldFloat32S (a : (List Nat)) (k : Int) : evalF E_w_heldFloat32S (lookL ll_w_heldFloat32S) Try.f39 [.ro false (.slice (.flt .f32)), .ro false (.int .i64)] (.one false (.int .i64)) (a, k, ()) = g_w_heldFloat32S a k := by kernel_rfl
def m_w_heldFloat32S : FM := { ps := [.ro false (.slice (.flt .f32)), .ro false (.int .i64)], res := .one false (.int .i64), run := fun x => g_w_heldFloat32S x.1 x.2.1 }
set_option maxRecDepth 4000 in
theorem ok_w_heldFloat32S : FmOK Try.prog 39 m_w_heldFloat32S := @FmOK.made Try.prog E_w_heldFloat32S ek_w_heldFloat32S 39 Try.f39 (lookL ll_w_heldFloat32S) m_w_heldFloat32S Try.func39 (by kernel_rfl) lo_w_heldFloat32S fun ds out _ hr => by obtain ⟨a, k, ⟨⟩⟩ := ds; exact (ev_w_heldFloat32S a k).trans hr

def E_w_FnExactRunSpring : Tabs := (mkE tab [(14, m_w_toSpring), (35, m_w_toFloat32S), (34, m_s_RunSpring), (36, m_i_RunSpring), (37, m_w_eqFloat32S), (18, m_w_eqSpring), (39, m_w_heldFloat32S)] [(38, m_w_markFloat32S)])
set_option maxRecDepth 4000 in
theorem ek_w_FnExactRunSpring : EnvOK Try.prog E_w_FnExactRunSpring := (mkE_ok tab_ok mixed (AllF.cons ok_w_toSpring (AllF.cons ok_w_toFloat32S (AllF.cons ok_s_RunSpring (AllF.cons ok_i_RunSpring (AllF.cons ok_w_eqFloat32S (AllF.cons ok_w_eqSpring (AllF.cons ok_w_heldFloat32S AllF.nil))))))) (AllX.cons ok_w_markFloat32S AllX.nil))
theorem ev_w_FnExactRunSpring (aS : dTurn) (aGoals : (List Nat)) : evalF E_w_FnExactRunSpring noL Try.f9 [.ro true tTurn, .ro false (.slice (.flt .f32))] (.one false .bool) (aS, aGoals, ()) = g_w_FnExactRunSpring aS aGoals := by kernel_rfl
def m_w_FnExactRunSpring : FM := { ps := [.ro true tTurn, .ro false (.slice (.flt .f32))], res := .one false .bool, run := fun x => g_w_FnExactRunSpring x.1 x.2.1 }
set_option maxRecDepth 4000 in
theorem ok_w_FnExactRunSpring : FmOK Try.prog 9 m_w_FnExactRunSpring := @FmOK.made Try.prog E_w_FnExactRunSpring ek_w_FnExactRunSpring 9 Try.f9 noL m_w_FnExactRunSpring Try.func9 (by kernel_rfl) (Loops.none (by kernel_rfl)) fun ds out _ hr => by obtain ⟨aS, aGoals, ⟨⟩⟩ := ds; exact (ev_w_FnExactRunSpring aS aGoals).trans hr
end Go.Fw.S
