/- The functions of the translation compute what the plain functions compute. No condition. -/
import Derived.Test.YtalhiopcegnobaaSPure
import Derived.Test.YtalhiopcegnobaaProg
import Derived.KernelRfl
set_option linter.unusedVariables false
namespace Go.Fw.S
open Go.Fw Go.Proofs Go.RowKit
noncomputable section
def tab : List (Nat × TI) := [
  (2, { und := .int .i64, size := 1, bytes := 8, zero := [.int .i64 0], ty := (.int .i64) }),
  (3, { und := .int .i64, size := 1, bytes := 8, zero := [.int .i64 0], ty := (.int .i64) }),
  (4, { und := .bool, size := 1, bytes := 1, zero := [.bool false], ty := .bool }),
  (5, { und := .int .u8, size := 1, bytes := 1, zero := [.int .u8 0], ty := (.int .u8) }),
  (22, { und := .flt .f32, size := 1, bytes := 4, zero := [.flt .f32 0], ty := (.flt .f32) }),
  (31, { und := .slice 5, size := 1, bytes := 24, zero := [.sl .nil], ty := (.slice (.int .u8)) }),
  (39, { und := .flt .f64, size := 1, bytes := 8, zero := [.flt .f64 0], ty := (.flt .f64) }),
  (53, { und := .struct [(0, 22), (1, 22), (2, 22), (3, 22)], size := 4, bytes := 16, zero := [.flt .f32 0, .flt .f32 0, .flt .f32 0, .flt .f32 0], ty := tTurn }),
  (54, { und := .slice 22, size := 1, bytes := 24, zero := [.sl .nil], ty := (.slice (.flt .f32)) }),
  (89, { und := .int .u64, size := 1, bytes := 8, zero := [.int .u64 0], ty := (.int .u64) })]
theorem tab_ok : TabOK Try.prog (lookT tab) := tabB_spec (by kernel_rfl)
theorem mixed : Try.prog.follows .mixedOrders = true := by kernel_rfl
def E_w_r8Long : Tabs := (mkE tab [] [])
set_option maxRecDepth 4000 in
theorem ek_w_r8Long : EnvOK Try.prog E_w_r8Long := (mkE_ok tab_ok mixed AllF.nil AllX.nil)
theorem ev_w_r8Long (code : (List Int)) (more : (List Int)) : evalF E_w_r8Long noL Try.f19 [.ro false (.slice (.int .u8)), .ro false (.slice (.int .u8))] (.one false .bool) (code, more, ()) = g_w_r8Long code more := by kernel_rfl
def m_w_r8Long : FM := { ps := [.ro false (.slice (.int .u8)), .ro false (.slice (.int .u8))], res := .one false .bool, run := fun x => some (t_w_r8Long x.1 x.2.1) }
set_option maxRecDepth 4000 in
theorem ok_w_r8Long : FmOK Try.prog 19 m_w_r8Long := @FmOK.made Try.prog E_w_r8Long ek_w_r8Long 19 Try.f19 noL m_w_r8Long Try.func19 (by kernel_rfl) (Loops.none (by kernel_rfl)) fun ds out _ hr => by obtain ⟨code, more, ⟨⟩⟩ := ds; exact (ev_w_r8Long code more).trans ((q_w_r8Long code more).trans hr)

def E_w_r8At : Tabs := (mkE tab [] [])
set_option maxRecDepth 4000 in
theorem ek_w_r8At : EnvOK Try.prog E_w_r8At := (mkE_ok tab_ok mixed AllF.nil AllX.nil)
theorem ev_w_r8At (code : (List Int)) (k : Int) (n : Int) : evalF E_w_r8At noL Try.f21 [.ro false (.slice (.int .u8)), .ro false (.int .i64), .ro false (.int .i64)] (.one false (.int .i64)) (code, k, n, ()) = g_w_r8At code k n := by kernel_rfl
def m_w_r8At : FM := { ps := [.ro false (.slice (.int .u8)), .ro false (.int .i64), .ro false (.int .i64)], res := .one false (.int .i64), run := fun x => g_w_r8At x.1 x.2.1 x.2.2.1 }
set_option maxRecDepth 4000 in
theorem ok_w_r8At : FmOK Try.prog 21 m_w_r8At := @FmOK.made Try.prog E_w_r8At ek_w_r8At 21 Try.f21 noL m_w_r8At Try.func21 (by kernel_rfl) (Loops.none (by kernel_rfl)) fun ds out _ hr => by obtain ⟨code, k, n, ⟨⟩⟩ := ds; exact (ev_w_r8At code k n).trans hr

def E_i_isMoves : Tabs := (mkE tab [] [])
set_option maxRecDepth 4000 in
theorem ek_i_isMoves : EnvOK Try.prog E_i_isMoves := (mkE_ok tab_ok mixed AllF.nil AllX.nil)
theorem ev_i_isMoves (steps : Int) : evalF E_i_isMoves noL Try.f55 [.ro false (.int .i64)] (.one false .bool) (steps, ()) = g_i_isMoves steps := by kernel_rfl
def m_i_isMoves : FM := { ps := [.ro false (.int .i64)], res := .one false .bool, run := fun x => some (t_i_isMoves x.1) }
set_option maxRecDepth 4000 in
theorem ok_i_isMoves : FmOK Try.prog 55 m_i_isMoves := @FmOK.made Try.prog E_i_isMoves ek_i_isMoves 55 Try.f55 noL m_i_isMoves Try.func55 (by kernel_rfl) (Loops.none (by kernel_rfl)) fun ds out _ hr => by obtain ⟨steps, ⟨⟩⟩ := ds; exact (ev_i_isMoves steps).trans ((q_i_isMoves steps).trans hr)

set_option maxRecDepth 4000 in
theorem ok_float64frombits : FmOK Try.prog 75 m_float64frombits := FmOK.from (e := Extern.MathFloatBits.float64frombits) Try.func75 (by kernel_rfl) rfl (by kernel_rfl) (by kernel_rfl) (fun _ _ => rfl) (by decide) (by decide)

def E_math_NaN : Tabs := (mkE tab [(75, m_float64frombits)] [])
set_option maxRecDepth 4000 in
theorem ek_math_NaN : EnvOK Try.prog E_math_NaN := (mkE_ok tab_ok mixed (AllF.cons ok_float64frombits AllF.nil) AllX.nil)
theorem ev_math_NaN  : evalF E_math_NaN noL Try.f79 [] (.one false (.flt .f64)) (()) = g_math_NaN  := by kernel_rfl
def m_math_NaN : FM := { ps := [], res := .one false (.flt .f64), run := fun x => some (t_math_NaN ) }
set_option maxRecDepth 4000 in
theorem ok_math_NaN : FmOK Try.prog 79 m_math_NaN := @FmOK.made Try.prog E_math_NaN ek_math_NaN 79 Try.f79 noL m_math_NaN Try.func79 (by kernel_rfl) (Loops.none (by kernel_rfl)) fun ds out _ hr => by obtain ⟨⟨⟩⟩ := ds; exact (ev_math_NaN ).trans ((q_math_NaN ).trans hr)

theorem xr_bits (b : Nat) (w : World) : (callFunc 67 #[.float .f64 b]).run Try.prog w = .ok (.value (.int .u64 b)) w := by
  rw [run_callFunc_extern (e := Extern.MathFloatBits.float64bits) Try.func67 rfl rfl (by kernel_rfl) (by kernel_rfl)]; rfl
theorem xr_from (n : Int) (w : World) : (callFunc 75 #[.int .u64 n]).run Try.prog w = .ok (.value (.float .f64 n.toNat)) w := by
  rw [run_callFunc_extern (e := Extern.MathFloatBits.float64frombits) Try.func75 rfl rfl (by kernel_rfl) (by kernel_rfl)]; rfl

set_option maxHeartbeats 400000 in
theorem xr_abs (b : Nat) (w : World) : Calls Try.prog 62 #[.float .f64 b] w fun e w' => e = .returned (.float .f64 (iandNot .u64 b (2 ^ 63)).toNat) ∧ w' = w := by
  have h1 := xr_bits
  have h2 := xr_from
  go_enter Try.func62, Try.ntmps62
  go_wp2
  go_ret
  exact ⟨rfl, rfl⟩
set_option maxRecDepth 4000 in
theorem ok_mathabs : FmOK Try.prog 62 m_mathabs := FmOK.abs Try.func62 rfl (by kernel_rfl) xr_abs

set_option maxRecDepth 4000 in
theorem ok_archTrunc : FmOK Try.prog 88 m_archTrunc := FmOK.whole .zero (name := "math.archTrunc") Try.func88 (by kernel_rfl) rfl (by kernel_rfl) (by kernel_rfl)

def E_math_Trunc : Tabs := (mkE tab [(88, m_archTrunc)] [])
set_option maxRecDepth 4000 in
theorem ek_math_Trunc : EnvOK Try.prog E_math_Trunc := (mkE_ok tab_ok mixed (AllF.cons ok_archTrunc AllF.nil) AllX.nil)
theorem ev_math_Trunc (xx : Nat) : evalF E_math_Trunc noL Try.f87 [.ro false (.flt .f64)] (.one false (.flt .f64)) (xx, ()) = g_math_Trunc xx := by kernel_rfl
def m_math_Trunc : FM := { ps := [.ro false (.flt .f64)], res := .one false (.flt .f64), run := fun x => g_math_Trunc x.1 }
set_option maxRecDepth 4000 in
theorem ok_math_Trunc : FmOK Try.prog 87 m_math_Trunc := @FmOK.made Try.prog E_math_Trunc ek_math_Trunc 87 Try.f87 noL m_math_Trunc Try.func87 (by kernel_rfl) (Loops.none (by kernel_rfl)) fun ds out _ hr => by obtain ⟨xx, ⟨⟩⟩ := ds; exact (ev_math_Trunc xx).trans hr

def E_i_placesOf : Tabs := (mkE tab [(87, m_math_Trunc)] [])
set_option maxRecDepth 4000 in
theorem ek_i_placesOf : EnvOK Try.prog E_i_placesOf := (mkE_ok tab_ok mixed (AllF.cons ok_math_Trunc AllF.nil) AllX.nil)
theorem ev_i_placesOf (turns : Nat) : evalF E_i_placesOf noL Try.f86 [.ro false (.flt .f64)] (.one false (.flt .f64)) (turns, ()) = g_i_placesOf turns := by kernel_rfl
def m_i_placesOf : FM := { ps := [.ro false (.flt .f64)], res := .one false (.flt .f64), run := fun x => g_i_placesOf x.1 }
set_option maxRecDepth 4000 in
theorem ok_i_placesOf : FmOK Try.prog 86 m_i_placesOf := @FmOK.made Try.prog E_i_placesOf ek_i_placesOf 86 Try.f86 noL m_i_placesOf Try.func86 (by kernel_rfl) (Loops.none (by kernel_rfl)) fun ds out _ hr => by obtain ⟨turns, ⟨⟩⟩ := ds; exact (ev_i_placesOf turns).trans hr

def E_i_sine : Tabs := (mkE tab [(86, m_i_placesOf)] [])
set_option maxRecDepth 4000 in
theorem ek_i_sine : EnvOK Try.prog E_i_sine := (mkE_ok tab_ok mixed (AllF.cons ok_i_placesOf AllF.nil) AllX.nil)
def lm_L_i_sine_1 : LM := { mat := [], head := { slots := [(4, .dat false .bool), (5, .dat false (.flt .f64)), (6, .dat false (.flt .f64)), (7, .dat false (.flt .f64)), (8, .dat false (.int .i64))], blks := [] }, out := { slots := [(4, .dat false .bool), (5, .dat false (.flt .f64)), (7, .dat false (.flt .f64))], blks := [] }, ex := 0, rets := false, run := iter L_i_sine_1 fuel }
def ll_i_sine : List (Nat × LP) := [(11, .lm lm_L_i_sine_1)]
theorem rd_L_i_sine_1 (rec' : (Bool × Nat × Nat × Nat × Int × Unit) × (Unit) → Option ((Bool × Nat × Nat × Unit) × (Unit))) (turned : Bool) (z : Nat) (u : Nat) (p : Nat) (k : Int) : round E_i_sine (lookL ll_i_sine) lm_L_i_sine_1 49 (loopAt Try.f80 0) rec' ((turned, z, u, p, k, ()), (())) = L_i_sine_1 rec' ((turned, z, u, p, k, ()), (())) := by kernel_rfl
theorem lo_i_sine : Loops E_i_sine (lookL ll_i_sine) Try.f80 := Loops.list (by kernel_rfl) (by kernel_rfl) ⟨LoopOK.iter (step := L_i_sine_1) (N := fun _ => fuel) (fun rec' x => by obtain ⟨⟨turned, z, u, p, k, ⟨⟩⟩, ⟨⟨⟩⟩⟩ := x; exact rd_L_i_sine_1 rec' turned z u p k) fun _ => rfl, trivial⟩
theorem ev_i_sine (turns : Nat) : evalF E_i_sine (lookL ll_i_sine) Try.f80 [.ro false (.flt .f64)] (.one false (.flt .f64)) (turns, ()) = g_i_sine turns := by kernel_rfl
def m_i_sine : FM := { ps := [.ro false (.flt .f64)], res := .one false (.flt .f64), run := fun x => g_i_sine x.1 }
set_option maxRecDepth 4000 in
theorem ok_i_sine : FmOK Try.prog 80 m_i_sine := @FmOK.made Try.prog E_i_sine ek_i_sine 80 Try.f80 (lookL ll_i_sine) m_i_sine Try.func80 (by kernel_rfl) lo_i_sine fun ds out _ hr => by obtain ⟨turns, ⟨⟩⟩ := ds; exact (ev_i_sine turns).trans hr

def E_i_wideSine : Tabs := (mkE tab [(79, m_math_NaN), (62, m_mathabs), (80, m_i_sine)] [])
set_option maxRecDepth 4000 in
theorem ek_i_wideSine : EnvOK Try.prog E_i_wideSine := (mkE_ok tab_ok mixed (AllF.cons ok_math_NaN (AllF.cons ok_mathabs (AllF.cons ok_i_sine AllF.nil))) AllX.nil)
theorem ev_i_wideSine (turns : Nat) : evalF E_i_wideSine noL Try.f69 [.ro false (.flt .f64)] (.one false (.flt .f64)) (turns, ()) = g_i_wideSine turns := by kernel_rfl
def m_i_wideSine : FM := { ps := [.ro false (.flt .f64)], res := .one false (.flt .f64), run := fun x => g_i_wideSine x.1 }
set_option maxRecDepth 4000 in
theorem ok_i_wideSine : FmOK Try.prog 69 m_i_wideSine := @FmOK.made Try.prog E_i_wideSine ek_i_wideSine 69 Try.f69 noL m_i_wideSine Try.func69 (by kernel_rfl) (Loops.none (by kernel_rfl)) fun ds out _ hr => by obtain ⟨turns, ⟨⟩⟩ := ds; exact (ev_i_wideSine turns).trans hr

def E_i_SineTurns : Tabs := (mkE tab [(69, m_i_wideSine)] [])
set_option maxRecDepth 4000 in
theorem ek_i_SineTurns : EnvOK Try.prog E_i_SineTurns := (mkE_ok tab_ok mixed (AllF.cons ok_i_wideSine AllF.nil) AllX.nil)
theorem ev_i_SineTurns (xx : Nat) : evalF E_i_SineTurns noL Try.f58 [.ro false (.flt .f32)] (.one false (.flt .f32)) (xx, ()) = g_i_SineTurns xx := by kernel_rfl
def m_i_SineTurns : FM := { ps := [.ro false (.flt .f32)], res := .one false (.flt .f32), run := fun x => g_i_SineTurns x.1 }
set_option maxRecDepth 4000 in
theorem ok_i_SineTurns : FmOK Try.prog 58 m_i_SineTurns := @FmOK.made Try.prog E_i_SineTurns ek_i_SineTurns 58 Try.f58 noL m_i_SineTurns Try.func58 (by kernel_rfl) (Loops.none (by kernel_rfl)) fun ds out _ hr => by obtain ⟨xx, ⟨⟩⟩ := ds; exact (ev_i_SineTurns xx).trans hr

def E_i_IsSubnormal : Tabs := (mkE tab [(62, m_mathabs)] [])
set_option maxRecDepth 4000 in
theorem ek_i_IsSubnormal : EnvOK Try.prog E_i_IsSubnormal := (mkE_ok tab_ok mixed (AllF.cons ok_mathabs AllF.nil) AllX.nil)
theorem ev_i_IsSubnormal (xx : Nat) : evalF E_i_IsSubnormal noL Try.f42 [.ro false (.flt .f32)] (.one false .bool) (xx, ()) = g_i_IsSubnormal xx := by kernel_rfl
def m_i_IsSubnormal : FM := { ps := [.ro false (.flt .f32)], res := .one false .bool, run := fun x => some (t_i_IsSubnormal x.1) }
set_option maxRecDepth 4000 in
theorem ok_i_IsSubnormal : FmOK Try.prog 42 m_i_IsSubnormal := @FmOK.made Try.prog E_i_IsSubnormal ek_i_IsSubnormal 42 Try.f42 noL m_i_IsSubnormal Try.func42 (by kernel_rfl) (Loops.none (by kernel_rfl)) fun ds out _ hr => by obtain ⟨xx, ⟨⟩⟩ := ds; exact (ev_i_IsSubnormal xx).trans ((q_i_IsSubnormal xx).trans hr)

set_option maxRecDepth 4000 in
theorem ok_float64bits : FmOK Try.prog 67 m_float64bits := FmOK.bits (e := Extern.MathFloatBits.float64bits) Try.func67 (by kernel_rfl) rfl (by kernel_rfl) (by kernel_rfl) (fun _ _ => rfl) (by decide) (by decide)

def E_math_Copysign : Tabs := (mkE tab [(67, m_float64bits), (75, m_float64frombits)] [])
set_option maxRecDepth 4000 in
theorem ek_math_Copysign : EnvOK Try.prog E_math_Copysign := (mkE_ok tab_ok mixed (AllF.cons ok_float64bits (AllF.cons ok_float64frombits AllF.nil)) AllX.nil)
theorem ev_math_Copysign (f : Nat) (sign : Nat) : evalF E_math_Copysign noL Try.f68 [.ro false (.flt .f64), .ro false (.flt .f64)] (.one false (.flt .f64)) (f, sign, ()) = g_math_Copysign f sign := by kernel_rfl
def m_math_Copysign : FM := { ps := [.ro false (.flt .f64), .ro false (.flt .f64)], res := .one false (.flt .f64), run := fun x => g_math_Copysign x.1 x.2.1 }
set_option maxRecDepth 4000 in
theorem ok_math_Copysign : FmOK Try.prog 68 m_math_Copysign := @FmOK.made Try.prog E_math_Copysign ek_math_Copysign 68 Try.f68 noL m_math_Copysign Try.func68 (by kernel_rfl) (Loops.none (by kernel_rfl)) fun ds out _ hr => by obtain ⟨f, sign, ⟨⟩⟩ := ds; exact (ev_math_Copysign f sign).trans hr

def E_i_FlushNumber : Tabs := (mkE tab [(42, m_i_IsSubnormal), (68, m_math_Copysign)] [])
set_option maxRecDepth 4000 in
theorem ek_i_FlushNumber : EnvOK Try.prog E_i_FlushNumber := (mkE_ok tab_ok mixed (AllF.cons ok_i_IsSubnormal (AllF.cons ok_math_Copysign AllF.nil)) AllX.nil)
theorem ev_i_FlushNumber (xx : Nat) : evalF E_i_FlushNumber noL Try.f57 [.ro false (.flt .f32)] (.one false (.flt .f32)) (xx, ()) = g_i_FlushNumber xx := by kernel_rfl
def m_i_FlushNumber : FM := { ps := [.ro false (.flt .f32)], res := .one false (.flt .f32), run := fun x => g_i_FlushNumber x.1 }
set_option maxRecDepth 4000 in
theorem ok_i_FlushNumber : FmOK Try.prog 57 m_i_FlushNumber := @FmOK.made Try.prog E_i_FlushNumber ek_i_FlushNumber 57 Try.f57 noL m_i_FlushNumber Try.func57 (by kernel_rfl) (Loops.none (by kernel_rfl)) fun ds out _ hr => by obtain ⟨xx, ⟨⟩⟩ := ds; exact (ev_i_FlushNumber xx).trans hr

def E_i_StepSwing : Tabs := (mkE tab [(58, m_i_SineTurns), (57, m_i_FlushNumber)] [])
set_option maxRecDepth 4000 in
theorem ek_i_StepSwing : EnvOK Try.prog E_i_StepSwing := (mkE_ok tab_ok mixed (AllF.cons ok_i_SineTurns (AllF.cons ok_i_FlushNumber AllF.nil)) AllX.nil)
theorem ev_i_StepSwing (s : dTurn) : evalF E_i_StepSwing noL Try.f33 [.ro true tTurn] (.one true tTurn) (s, ()) = g_i_StepSwing s := by kernel_rfl
def m_i_StepSwing : FM := { ps := [.ro true tTurn], res := .one true tTurn, run := fun x => g_i_StepSwing x.1 }
set_option maxRecDepth 4000 in
theorem ok_i_StepSwing : FmOK Try.prog 33 m_i_StepSwing := @FmOK.made Try.prog E_i_StepSwing ek_i_StepSwing 33 Try.f33 noL m_i_StepSwing Try.func33 (by kernel_rfl) (Loops.none (by kernel_rfl)) fun ds out _ hr => by obtain ⟨s, ⟨⟩⟩ := ds; exact (ev_i_StepSwing s).trans hr

def E_i_RunSwing : Tabs := (mkE tab [(55, m_i_isMoves), (33, m_i_StepSwing)] [])
set_option maxRecDepth 4000 in
theorem ek_i_RunSwing : EnvOK Try.prog E_i_RunSwing := (mkE_ok tab_ok mixed (AllF.cons ok_i_isMoves (AllF.cons ok_i_StepSwing AllF.nil)) AllX.nil)
def lm_L_i_RunSwing_1 : LM := { mat := [.slot 7 (.flt .f32)], head := { slots := [(2, .cst (.ptr (.box 0 0))), (5, .cst (.ptr (.box 1 0))), (7, .cst (.sl (.row 2))), (12, .dat false (.int .i64)), (13, .dat false (.int .i64))], blks := [.box [.dat tTurn], .box [.dat tTurn], .row false (.flt .f32)] }, out := { slots := [(2, .cst (.ptr (.box 0 0))), (5, .cst (.ptr (.box 1 0))), (7, .cst (.sl (.row 2)))], blks := [.box [.dat tTurn], .box [.dat tTurn], .row false (.flt .f32)] }, ex := 0, rets := false, run := iter L_i_RunSwing_1 fuel }
def ll_i_RunSwing : List (Nat × LP) := [(5, .lm lm_L_i_RunSwing_1)]
theorem rd_L_i_RunSwing_1 (rec' : (Int × Int × Unit) × ((dTurn × Unit) × (dTurn × Unit) × (List Nat) × Unit) → Option ((Unit) × ((dTurn × Unit) × (dTurn × Unit) × (List Nat) × Unit))) (t12 : Int) (t13 : Int) (b0 : dTurn) (b1 : dTurn) (r2 : (List Nat)) : round E_i_RunSwing (lookL ll_i_RunSwing) lm_L_i_RunSwing_1 25 (loopAt Try.f30 0) rec' ((t12, t13, ()), ((b0, ()), (b1, ()), r2, ())) = L_i_RunSwing_1 rec' ((t12, t13, ()), ((b0, ()), (b1, ()), r2, ())) := by kernel_rfl
theorem lo_i_RunSwing : Loops E_i_RunSwing (lookL ll_i_RunSwing) Try.f30 := Loops.list (by kernel_rfl) (by kernel_rfl) ⟨LoopOK.iter (step := L_i_RunSwing_1) (N := fun _ => fuel) (fun rec' x => by obtain ⟨⟨t12, t13, ⟨⟩⟩, ⟨⟨b0, ⟨⟩⟩, ⟨b1, ⟨⟩⟩, r2, ⟨⟩⟩⟩ := x; exact rd_L_i_RunSwing_1 rec' t12 t13 b0 b1 r2) fun _ => rfl, trivial⟩
theorem ev_i_RunSwing (s : dTurn) (steps : Int) : evalF E_i_RunSwing (lookL ll_i_RunSwing) Try.f30 [.ro true tTurn, .ro false (.int .i64)] (.tup [(false, (.slice (.flt .f32))), (true, tTurn), (false, .bool)]) (s, steps, ()) = g_i_RunSwing s steps := by kernel_rfl
def m_i_RunSwing : FM := { ps := [.ro true tTurn, .ro false (.int .i64)], res := .tup [(false, (.slice (.flt .f32))), (true, tTurn), (false, .bool)], run := fun x => g_i_RunSwing x.1 x.2.1 }
set_option maxRecDepth 4000 in
theorem ok_i_RunSwing : FmOK Try.prog 30 m_i_RunSwing := @FmOK.made Try.prog E_i_RunSwing ek_i_RunSwing 30 Try.f30 (lookL ll_i_RunSwing) m_i_RunSwing Try.func30 (by kernel_rfl) lo_i_RunSwing fun ds out _ hr => by obtain ⟨s, steps, ⟨⟩⟩ := ds; exact (ev_i_RunSwing s steps).trans hr

def E_math_Signbit : Tabs := (mkE tab [(67, m_float64bits)] [])
set_option maxRecDepth 4000 in
theorem ek_math_Signbit : EnvOK Try.prog E_math_Signbit := (mkE_ok tab_ok mixed (AllF.cons ok_float64bits AllF.nil) AllX.nil)
theorem ev_math_Signbit (xx : Nat) : evalF E_math_Signbit noL Try.f56 [.ro false (.flt .f64)] (.one false .bool) (xx, ()) = g_math_Signbit xx := by kernel_rfl
def m_math_Signbit : FM := { ps := [.ro false (.flt .f64)], res := .one false .bool, run := fun x => g_math_Signbit x.1 }
set_option maxRecDepth 4000 in
theorem ok_math_Signbit : FmOK Try.prog 56 m_math_Signbit := @FmOK.made Try.prog E_math_Signbit ek_math_Signbit 56 Try.f56 noL m_math_Signbit Try.func56 (by kernel_rfl) (Loops.none (by kernel_rfl)) fun ds out _ hr => by obtain ⟨xx, ⟨⟩⟩ := ds; exact (ev_math_Signbit xx).trans hr

def E_i_SameNumber : Tabs := (mkE tab [(56, m_math_Signbit)] [])
set_option maxRecDepth 4000 in
theorem ek_i_SameNumber : EnvOK Try.prog E_i_SameNumber := (mkE_ok tab_ok mixed (AllF.cons ok_math_Signbit AllF.nil) AllX.nil)
theorem ev_i_SameNumber (a : Nat) (b : Nat) : evalF E_i_SameNumber noL Try.f32 [.ro false (.flt .f32), .ro false (.flt .f32)] (.one false .bool) (a, b, ()) = g_i_SameNumber a b := by kernel_rfl
def m_i_SameNumber : FM := { ps := [.ro false (.flt .f32), .ro false (.flt .f32)], res := .one false .bool, run := fun x => g_i_SameNumber x.1 x.2.1 }
set_option maxRecDepth 4000 in
theorem ok_i_SameNumber : FmOK Try.prog 32 m_i_SameNumber := @FmOK.made Try.prog E_i_SameNumber ek_i_SameNumber 32 Try.f32 noL m_i_SameNumber Try.func32 (by kernel_rfl) (Loops.none (by kernel_rfl)) fun ds out _ hr => by obtain ⟨a, b, ⟨⟩⟩ := ds; exact (ev_i_SameNumber a b).trans hr

def E_w_r8Same : Tabs := (mkE tab [(32, m_i_SameNumber)] [])
set_option maxRecDepth 4000 in
theorem ek_w_r8Same : EnvOK Try.prog E_w_r8Same := (mkE_ok tab_ok mixed (AllF.cons ok_i_SameNumber AllF.nil) AllX.nil)
def lm_L_w_r8Same_1 : LM := { mat := [], head := { slots := [(0, .dat false (.slice (.flt .f32))), (1, .dat false (.slice (.flt .f32))), (4, .dat false .bool), (5, .dat false (.int .i64))], blks := [] }, out := { slots := [(4, .dat false .bool)], blks := [] }, ex := 0, rets := true, run := iter L_w_r8Same_1 fuel }
def ll_w_r8Same : List (Nat × LP) := [(4, .lm lm_L_w_r8Same_1)]
theorem rd_L_w_r8Same_1 (rec' : ((List Nat) × (List Nat) × Bool × Int × Unit) × (Unit) → Option (Bool × ((Bool × Unit) × (Unit)))) (a : (List Nat)) (b : (List Nat)) (t4 : Bool) (i : Int) : round E_w_r8Same (lookL ll_w_r8Same) lm_L_w_r8Same_1 27 (loopAt Try.f31 0) rec' ((a, b, t4, i, ()), (())) = L_w_r8Same_1 rec' ((a, b, t4, i, ()), (())) := by kernel_rfl
theorem lo_w_r8Same : Loops E_w_r8Same (lookL ll_w_r8Same) Try.f31 := Loops.list (by kernel_rfl) (by kernel_rfl) ⟨LoopOK.iter (step := L_w_r8Same_1) (N := fun _ => fuel) (fun rec' x => by obtain ⟨⟨a, b, t4, i, ⟨⟩⟩, ⟨⟨⟩⟩⟩ := x; exact rd_L_w_r8Same_1 rec' a b t4 i) fun _ => rfl, trivial⟩
theorem ev_w_r8Same (a : (List Nat)) (b : (List Nat)) : evalF E_w_r8Same (lookL ll_w_r8Same) Try.f31 [.ro false (.slice (.flt .f32)), .ro false (.slice (.flt .f32))] (.one false .bool) (a, b, ()) = g_w_r8Same a b := by kernel_rfl
def m_w_r8Same : FM := { ps := [.ro false (.slice (.flt .f32)), .ro false (.slice (.flt .f32))], res := .one false .bool, run := fun x => g_w_r8Same x.1 x.2.1 }
set_option maxRecDepth 4000 in
theorem ok_w_r8Same : FmOK Try.prog 31 m_w_r8Same := @FmOK.made Try.prog E_w_r8Same ek_w_r8Same 31 Try.f31 (lookL ll_w_r8Same) m_w_r8Same Try.func31 (by kernel_rfl) lo_w_r8Same fun ds out _ hr => by obtain ⟨a, b, ⟨⟩⟩ := ds; exact (ev_w_r8Same a b).trans hr

def E_w_r8Gap : Tabs := (mkE tab [] [])
set_option maxRecDepth 4000 in
theorem ek_w_r8Gap : EnvOK Try.prog E_w_r8Gap := (mkE_ok tab_ok mixed AllF.nil AllX.nil)
theorem ev_w_r8Gap (a : Nat) (b : Nat) : evalF E_w_r8Gap noL Try.f23 [.ro false (.flt .f64), .ro false (.flt .f64)] (.one false (.flt .f64)) (a, b, ()) = g_w_r8Gap a b := by kernel_rfl
def m_w_r8Gap : FM := { ps := [.ro false (.flt .f64), .ro false (.flt .f64)], res := .one false (.flt .f64), run := fun x => some (t_w_r8Gap x.1 x.2.1) }
set_option maxRecDepth 4000 in
theorem ok_w_r8Gap : FmOK Try.prog 23 m_w_r8Gap := @FmOK.made Try.prog E_w_r8Gap ek_w_r8Gap 23 Try.f23 noL m_w_r8Gap Try.func23 (by kernel_rfl) (Loops.none (by kernel_rfl)) fun ds out _ hr => by obtain ⟨a, b, ⟨⟩⟩ := ds; exact (ev_w_r8Gap a b).trans ((q_w_r8Gap a b).trans hr)

def E_w_FnPendulums : Tabs := (mkE tab [(19, m_w_r8Long), (21, m_w_r8At), (30, m_i_RunSwing), (31, m_w_r8Same), (32, m_i_SameNumber), (23, m_w_r8Gap), (33, m_i_StepSwing)] [])
set_option maxRecDepth 4000 in
theorem ek_w_FnPendulums : EnvOK Try.prog E_w_FnPendulums := (mkE_ok tab_ok mixed (AllF.cons ok_w_r8Long (AllF.cons ok_w_r8At (AllF.cons ok_i_RunSwing (AllF.cons ok_w_r8Same (AllF.cons ok_i_SameNumber (AllF.cons ok_w_r8Gap (AllF.cons ok_i_StepSwing AllF.nil))))))) AllX.nil)
def lm_L_w_FnPendulums_1 : LM := { mat := [], head := { slots := [(4, .dat false .bool), (5, .cst (.ptr (.box 0 0))), (6, .dat false (.int .i64)), (9, .cst (.sl (.row 2))), (12, .cst (.sl (.row 4))), (21, .dat false (.int .i64))], blks := [.box [.dat tTurn], .dead, .row false (.flt .f32), .dead, .row false (.flt .f32), .dead, .dead, .dead, .dead, .dead, .dead] }, out := { slots := [(4, .dat false .bool), (5, .cst (.ptr (.box 0 0)))], blks := [.box [.dat tTurn], .dead, .dead, .dead, .dead, .dead, .dead, .dead, .dead, .dead, .dead] }, ex := 0, rets := true, run := iter L_w_FnPendulums_1 fuel }
def ll_w_FnPendulums : List (Nat × LP) := [(14, .lm lm_L_w_FnPendulums_1)]
theorem rd_L_w_FnPendulums_1 (rec' : (Bool × Int × Int × Unit) × ((dTurn × Unit) × (List Nat) × (List Nat) × Unit) → Option (Bool × ((Bool × Unit) × ((dTurn × Unit) × Unit)))) (t4 : Bool) (steps : Int) (i : Int) (b0 : dTurn) (r2 : (List Nat)) (r4 : (List Nat)) : round E_w_FnPendulums (lookL ll_w_FnPendulums) lm_L_w_FnPendulums_1 169 (loopAt Try.f8 0) rec' ((t4, steps, i, ()), ((b0, ()), r2, r4, ())) = L_w_FnPendulums_1 rec' ((t4, steps, i, ()), ((b0, ()), r2, r4, ())) := by kernel_rfl
theorem lo_w_FnPendulums : Loops E_w_FnPendulums (lookL ll_w_FnPendulums) Try.f8 := Loops.list (by kernel_rfl) (by kernel_rfl) ⟨LoopOK.iter (step := L_w_FnPendulums_1) (N := fun _ => fuel) (fun rec' x => by obtain ⟨⟨t4, steps, i, ⟨⟩⟩, ⟨⟨b0, ⟨⟩⟩, r2, r4, ⟨⟩⟩⟩ := x; exact rd_L_w_FnPendulums_1 rec' t4 steps i b0 r2 r4) fun _ => rfl, trivial⟩
theorem ev_w_FnPendulums (code : (List Int)) (more : (List Int)) : evalF E_w_FnPendulums (lookL ll_w_FnPendulums) Try.f8 [.ro false (.slice (.int .u8)), .ro false (.slice (.int .u8))] (.one false .bool) (code, more, ()) = g_w_FnPendulums code more := by kernel_rfl
end
end Go.Fw.S
