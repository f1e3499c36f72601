/- The functions of the translation compute what the plain functions compute. No condition. -/
import Derived.Test.YtalhiopcegnobaaSPure
import Derived.Test.YtalhiopcegnobaaProg
import Derived.KernelRfl
set_option linter.unusedVariables false
namespace Go.Fw.S
open Go.Fw Go.Proofs Go.RowKit
noncomputable section
def tab : List (Nat × TI) := [
  (2, { und := .int .i64, size := 1, bytes := 8, zero := [.int .i64 0], ty := (.int .i64) }),
  (3, { und := .int .i64, size := 1, bytes := 8, zero := [.int .i64 0], ty := (.int .i64) }),
  (4, { und := .bool, size := 1, bytes := 1, zero := [.bool false], ty := .bool }),
  (22, { und := .flt .f32, size := 1, bytes := 4, zero := [.flt .f32 0], ty := (.flt .f32) }),
  (39, { und := .flt .f64, size := 1, bytes := 8, zero := [.flt .f64 0], ty := (.flt .f64) }),
  (53, { und := .struct [(0, 22), (1, 22), (2, 22), (3, 22)], size := 4, bytes := 16, zero := [.flt .f32 0, .flt .f32 0, .flt .f32 0, .flt .f32 0], ty := tTurn }),
  (54, { und := .slice 22, size := 1, bytes := 24, zero := [.sl .nil], ty := (.slice (.flt .f32)) }),
  (68, { und := .struct [(0, 22), (1, 22), (2, 22), (3, 22)], size := 4, bytes := 16, zero := [.flt .f32 0, .flt .f32 0, .flt .f32 0, .flt .f32 0], ty := tTurn }),
  (89, { und := .int .u64, size := 1, bytes := 8, zero := [.int .u64 0], ty := (.int .u64) }),
  (102, { und := .int .u32, size := 1, bytes := 4, zero := [.int .u32 0], ty := (.int .u32) })]
theorem tab_ok : TabOK Try.prog (lookT tab) := tabB_spec (by kernel_rfl)
theorem mixed : Try.prog.follows .mixedOrders = true := by kernel_rfl
def E_w_toSwing : Tabs := (mkE tab [] [])
set_option maxRecDepth 4000 in
theorem ek_w_toSwing : EnvOK Try.prog E_w_toSwing := (mkE_ok tab_ok mixed AllF.nil AllX.nil)
theorem ev_w_toSwing (a : dTurn) : evalF E_w_toSwing noL Try.f44 [.ro true tTurn] (.one true tTurn) (a, ()) = g_w_toSwing a := by kernel_rfl
def m_w_toSwing : FM := { ps := [.ro true tTurn], res := .one true tTurn, run := fun x => some (t_w_toSwing x.1) }
set_option maxRecDepth 4000 in
theorem ok_w_toSwing : FmOK Try.prog 44 m_w_toSwing := @FmOK.made Try.prog E_w_toSwing ek_w_toSwing 44 Try.f44 noL m_w_toSwing Try.func44 (by kernel_rfl) (Loops.none (by kernel_rfl)) fun ds out _ hr => by obtain ⟨a, ⟨⟩⟩ := ds; exact (ev_w_toSwing a).trans ((q_w_toSwing a).trans hr)

def E_s_l00In : Tabs := (mkE tab [] [])
set_option maxRecDepth 4000 in
theorem ek_s_l00In : EnvOK Try.prog E_s_l00In := (mkE_ok tab_ok mixed AllF.nil AllX.nil)
theorem ev_s_l00In (n : Int) (low : Int) (high : Int) : evalF E_s_l00In noL Try.f53 [.ro false (.int .i64), .ro false (.int .i64), .ro false (.int .i64)] (.one false .bool) (n, low, high, ()) = g_s_l00In n low high := by kernel_rfl
def m_s_l00In : FM := { ps := [.ro false (.int .i64), .ro false (.int .i64), .ro false (.int .i64)], res := .one false .bool, run := fun x => some (t_s_l00In x.1 x.2.1 x.2.2.1) }
set_option maxRecDepth 4000 in
theorem ok_s_l00In : FmOK Try.prog 53 m_s_l00In := @FmOK.made Try.prog E_s_l00In ek_s_l00In 53 Try.f53 noL m_s_l00In Try.func53 (by kernel_rfl) (Loops.none (by kernel_rfl)) fun ds out _ hr => by obtain ⟨n, low, high, ⟨⟩⟩ := ds; exact (ev_s_l00In n low high).trans ((q_s_l00In n low high).trans hr)

set_option maxRecDepth 4000 in
theorem ok_float64frombits : FmOK Try.prog 75 m_float64frombits := FmOK.from (e := Extern.MathFloatBits.float64frombits) Try.func75 (by kernel_rfl) rfl (by kernel_rfl) (by kernel_rfl) (fun _ _ => rfl) (by decide) (by decide)

def E_math_NaN : Tabs := (mkE tab [(75, m_float64frombits)] [])
set_option maxRecDepth 4000 in
theorem ek_math_NaN : EnvOK Try.prog E_math_NaN := (mkE_ok tab_ok mixed (AllF.cons ok_float64frombits AllF.nil) AllX.nil)
theorem ev_math_NaN  : evalF E_math_NaN noL Try.f79 [] (.one false (.flt .f64)) (()) = g_math_NaN  := by kernel_rfl
def m_math_NaN : FM := { ps := [], res := .one false (.flt .f64), run := fun x => some (t_math_NaN ) }
set_option maxRecDepth 4000 in
theorem ok_math_NaN : FmOK Try.prog 79 m_math_NaN := @FmOK.made Try.prog E_math_NaN ek_math_NaN 79 Try.f79 noL m_math_NaN Try.func79 (by kernel_rfl) (Loops.none (by kernel_rfl)) fun ds out _ hr => by obtain ⟨⟨⟩⟩ := ds; exact (ev_math_NaN ).trans ((q_math_NaN ).trans hr)

def E_s_l01SineWide : Tabs := (mkE tab [(79, m_math_NaN)] [])
set_option maxRecDepth 4000 in
theorem ek_s_l01SineWide : EnvOK Try.prog E_s_l01SineWide := (mkE_ok tab_ok mixed (AllF.cons ok_math_NaN AllF.nil) AllX.nil)
def lm_L_s_l01SineWide_1 : LM := { mat := [], head := { slots := [(4, .dat false .bool), (5, .dat false (.flt .f64)), (6, .dat false (.flt .f64)), (7, .dat false (.flt .f64)), (8, .dat false (.int .i64))], blks := [] }, out := { slots := [(4, .dat false .bool), (5, .dat false (.flt .f64)), (7, .dat false (.flt .f64))], blks := [] }, ex := 0, rets := false, run := iter L_s_l01SineWide_1 fuel }
def ll_s_l01SineWide : List (Nat × LP) := [(17, .lm lm_L_s_l01SineWide_1)]
theorem rd_L_s_l01SineWide_1 (rec' : (Bool × Nat × Nat × Nat × Int × Unit) × (Unit) → Option ((Bool × Nat × Nat × Unit) × (Unit))) (below : Bool) (z : Nat) (u : Nat) (p : Nat) (k : Int) : round E_s_l01SineWide (lookL ll_s_l01SineWide) lm_L_s_l01SineWide_1 67 (loopAt Try.f83 0) rec' ((below, z, u, p, k, ()), (())) = L_s_l01SineWide_1 rec' ((below, z, u, p, k, ()), (())) := by kernel_rfl
theorem lo_s_l01SineWide : Loops E_s_l01SineWide (lookL ll_s_l01SineWide) Try.f83 := Loops.list (by kernel_rfl) (by kernel_rfl) ⟨LoopOK.iter (step := L_s_l01SineWide_1) (N := fun _ => fuel) (fun rec' x => by obtain ⟨⟨below, z, u, p, k, ⟨⟩⟩, ⟨⟨⟩⟩⟩ := x; exact rd_L_s_l01SineWide_1 rec' below z u p k) fun _ => rfl, trivial⟩
theorem ev_s_l01SineWide (y : Nat) : evalF E_s_l01SineWide (lookL ll_s_l01SineWide) Try.f83 [.ro false (.flt .f64)] (.one false (.flt .f64)) (y, ()) = g_s_l01SineWide y := by kernel_rfl
def m_s_l01SineWide : FM := { ps := [.ro false (.flt .f64)], res := .one false (.flt .f64), run := fun x => g_s_l01SineWide x.1 }
set_option maxRecDepth 4000 in
theorem ok_s_l01SineWide : FmOK Try.prog 83 m_s_l01SineWide := @FmOK.made Try.prog E_s_l01SineWide ek_s_l01SineWide 83 Try.f83 (lookL ll_s_l01SineWide) m_s_l01SineWide Try.func83 (by kernel_rfl) lo_s_l01SineWide fun ds out _ hr => by obtain ⟨y, ⟨⟩⟩ := ds; exact (ev_s_l01SineWide y).trans hr

def E_s_l01Narrow : Tabs := (mkE tab [] [])
set_option maxRecDepth 4000 in
theorem ek_s_l01Narrow : EnvOK Try.prog E_s_l01Narrow := (mkE_ok tab_ok mixed AllF.nil AllX.nil)
theorem ev_s_l01Narrow (xx : Nat) : evalF E_s_l01Narrow noL Try.f82 [.ro false (.flt .f64)] (.one false (.flt .f32)) (xx, ()) = g_s_l01Narrow xx := by kernel_rfl
def m_s_l01Narrow : FM := { ps := [.ro false (.flt .f64)], res := .one false (.flt .f32), run := fun x => g_s_l01Narrow x.1 }
set_option maxRecDepth 4000 in
theorem ok_s_l01Narrow : FmOK Try.prog 82 m_s_l01Narrow := @FmOK.made Try.prog E_s_l01Narrow ek_s_l01Narrow 82 Try.f82 noL m_s_l01Narrow Try.func82 (by kernel_rfl) (Loops.none (by kernel_rfl)) fun ds out _ hr => by obtain ⟨xx, ⟨⟩⟩ := ds; exact (ev_s_l01Narrow xx).trans hr

def E_s_l01Sine : Tabs := (mkE tab [(83, m_s_l01SineWide), (82, m_s_l01Narrow)] [])
set_option maxRecDepth 4000 in
theorem ek_s_l01Sine : EnvOK Try.prog E_s_l01Sine := (mkE_ok tab_ok mixed (AllF.cons ok_s_l01SineWide (AllF.cons ok_s_l01Narrow AllF.nil)) AllX.nil)
theorem ev_s_l01Sine (xx : Nat) : evalF E_s_l01Sine noL Try.f76 [.ro false (.flt .f32)] (.one false (.flt .f32)) (xx, ()) = g_s_l01Sine xx := by kernel_rfl
def m_s_l01Sine : FM := { ps := [.ro false (.flt .f32)], res := .one false (.flt .f32), run := fun x => g_s_l01Sine x.1 }
set_option maxRecDepth 4000 in
theorem ok_s_l01Sine : FmOK Try.prog 76 m_s_l01Sine := @FmOK.made Try.prog E_s_l01Sine ek_s_l01Sine 76 Try.f76 noL m_s_l01Sine Try.func76 (by kernel_rfl) (Loops.none (by kernel_rfl)) fun ds out _ hr => by obtain ⟨xx, ⟨⟩⟩ := ds; exact (ev_s_l01Sine xx).trans hr

set_option maxRecDepth 4000 in
theorem ok_float32bits : FmOK Try.prog 84 m_float32bits := FmOK.bits (e := Extern.MathFloatBits.float32bits) Try.func84 (by kernel_rfl) rfl (by kernel_rfl) (by kernel_rfl) (fun _ _ => rfl) (by decide) (by decide)

def E_s_l01Bits : Tabs := (mkE tab [(84, m_float32bits)] [])
set_option maxRecDepth 4000 in
theorem ek_s_l01Bits : EnvOK Try.prog E_s_l01Bits := (mkE_ok tab_ok mixed (AllF.cons ok_float32bits AllF.nil) AllX.nil)
theorem ev_s_l01Bits (xx : Nat) : evalF E_s_l01Bits noL Try.f77 [.ro false (.flt .f32)] (.one false (.int .i64)) (xx, ()) = g_s_l01Bits xx := by kernel_rfl
def m_s_l01Bits : FM := { ps := [.ro false (.flt .f32)], res := .one false (.int .i64), run := fun x => g_s_l01Bits x.1 }
set_option maxRecDepth 4000 in
theorem ok_s_l01Bits : FmOK Try.prog 77 m_s_l01Bits := @FmOK.made Try.prog E_s_l01Bits ek_s_l01Bits 77 Try.f77 noL m_s_l01Bits Try.func77 (by kernel_rfl) (Loops.none (by kernel_rfl)) fun ds out _ hr => by obtain ⟨xx, ⟨⟩⟩ := ds; exact (ev_s_l01Bits xx).trans hr

set_option maxRecDepth 4000 in
theorem ok_float32frombits : FmOK Try.prog 85 m_float32frombits := FmOK.from (e := Extern.MathFloatBits.float32frombits) Try.func85 (by kernel_rfl) rfl (by kernel_rfl) (by kernel_rfl) (fun _ _ => rfl) (by decide) (by decide)

def E_s_l01From : Tabs := (mkE tab [(85, m_float32frombits)] [])
set_option maxRecDepth 4000 in
theorem ek_s_l01From : EnvOK Try.prog E_s_l01From := (mkE_ok tab_ok mixed (AllF.cons ok_float32frombits AllF.nil) AllX.nil)
theorem ev_s_l01From (n : Int) : evalF E_s_l01From noL Try.f78 [.ro false (.int .i64)] (.one false (.flt .f32)) (n, ()) = g_s_l01From n := by kernel_rfl
def m_s_l01From : FM := { ps := [.ro false (.int .i64)], res := .one false (.flt .f32), run := fun x => some (t_s_l01From x.1) }
set_option maxRecDepth 4000 in
theorem ok_s_l01From : FmOK Try.prog 78 m_s_l01From := @FmOK.made Try.prog E_s_l01From ek_s_l01From 78 Try.f78 noL m_s_l01From Try.func78 (by kernel_rfl) (Loops.none (by kernel_rfl)) fun ds out _ hr => by obtain ⟨n, ⟨⟩⟩ := ds; exact (ev_s_l01From n).trans ((q_s_l01From n).trans hr)

def E_s_l01Flush : Tabs := (mkE tab [(77, m_s_l01Bits), (78, m_s_l01From)] [])
set_option maxRecDepth 4000 in
theorem ek_s_l01Flush : EnvOK Try.prog E_s_l01Flush := (mkE_ok tab_ok mixed (AllF.cons ok_s_l01Bits (AllF.cons ok_s_l01From AllF.nil)) AllX.nil)
theorem ev_s_l01Flush (xx : Nat) : evalF E_s_l01Flush noL Try.f66 [.ro false (.flt .f32)] (.one false (.flt .f32)) (xx, ()) = g_s_l01Flush xx := by kernel_rfl
def m_s_l01Flush : FM := { ps := [.ro false (.flt .f32)], res := .one false (.flt .f32), run := fun x => g_s_l01Flush x.1 }
set_option maxRecDepth 4000 in
theorem ok_s_l01Flush : FmOK Try.prog 66 m_s_l01Flush := @FmOK.made Try.prog E_s_l01Flush ek_s_l01Flush 66 Try.f66 noL m_s_l01Flush Try.func66 (by kernel_rfl) (Loops.none (by kernel_rfl)) fun ds out _ hr => by obtain ⟨xx, ⟨⟩⟩ := ds; exact (ev_s_l01Flush xx).trans hr

def E_s_l08Swing : Tabs := (mkE tab [(76, m_s_l01Sine), (66, m_s_l01Flush)] [])
set_option maxRecDepth 4000 in
theorem ek_s_l08Swing : EnvOK Try.prog E_s_l08Swing := (mkE_ok tab_ok mixed (AllF.cons ok_s_l01Sine (AllF.cons ok_s_l01Flush AllF.nil)) AllX.nil)
theorem ev_s_l08Swing (s : dTurn) : evalF E_s_l08Swing noL Try.f63 [.ro true tTurn] (.one true tTurn) (s, ()) = g_s_l08Swing s := by kernel_rfl
def m_s_l08Swing : FM := { ps := [.ro true tTurn], res := .one true tTurn, run := fun x => g_s_l08Swing x.1 }
set_option maxRecDepth 4000 in
theorem ok_s_l08Swing : FmOK Try.prog 63 m_s_l08Swing := @FmOK.made Try.prog E_s_l08Swing ek_s_l08Swing 63 Try.f63 noL m_s_l08Swing Try.func63 (by kernel_rfl) (Loops.none (by kernel_rfl)) fun ds out _ hr => by obtain ⟨s, ⟨⟩⟩ := ds; exact (ev_s_l08Swing s).trans hr

def E_s_RunSwing : Tabs := (mkE tab [(53, m_s_l00In), (63, m_s_l08Swing)] [])
set_option maxRecDepth 4000 in
theorem ek_s_RunSwing : EnvOK Try.prog E_s_RunSwing := (mkE_ok tab_ok mixed (AllF.cons ok_s_l00In (AllF.cons ok_s_l08Swing AllF.nil)) AllX.nil)
def lm_L_s_RunSwing_1 : LM := { mat := [], head := { slots := [(1, .dat false (.int .i64)), (2, .cst (.ptr (.box 0 0))), (5, .cst (.ptr (.box 1 0))), (7, .cst (.sl (.row 2))), (8, .dat false (.int .i64))], blks := [.box [.dat tTurn], .box [.dat tTurn], .row false (.flt .f32)] }, out := { slots := [(2, .cst (.ptr (.box 0 0))), (5, .cst (.ptr (.box 1 0))), (7, .cst (.sl (.row 2)))], blks := [.box [.dat tTurn], .box [.dat tTurn], .row false (.flt .f32)] }, ex := 0, rets := false, run := iter L_s_RunSwing_1 fuel }
def ll_s_RunSwing : List (Nat × LP) := [(5, .lm lm_L_s_RunSwing_1)]
theorem rd_L_s_RunSwing_1 (rec' : (Int × Int × Unit) × ((dTurn × Unit) × (dTurn × Unit) × (List Nat) × Unit) → Option ((Unit) × ((dTurn × Unit) × (dTurn × Unit) × (List Nat) × Unit))) (steps : Int) (k : Int) (b0 : dTurn) (b1 : dTurn) (r2 : (List Nat)) : round E_s_RunSwing (lookL ll_s_RunSwing) lm_L_s_RunSwing_1 28 (loopAt Try.f46 0) rec' ((steps, k, ()), ((b0, ()), (b1, ()), r2, ())) = L_s_RunSwing_1 rec' ((steps, k, ()), ((b0, ()), (b1, ()), r2, ())) := by kernel_rfl
theorem lo_s_RunSwing : Loops E_s_RunSwing (lookL ll_s_RunSwing) Try.f46 := Loops.list (by kernel_rfl) (by kernel_rfl) ⟨LoopOK.iter (step := L_s_RunSwing_1) (N := fun _ => fuel) (fun rec' x => by obtain ⟨⟨steps, k, ⟨⟩⟩, ⟨⟨b0, ⟨⟩⟩, ⟨b1, ⟨⟩⟩, r2, ⟨⟩⟩⟩ := x; exact rd_L_s_RunSwing_1 rec' steps k b0 b1 r2) fun _ => rfl, trivial⟩
theorem ev_s_RunSwing (s : dTurn) (steps : Int) : evalF E_s_RunSwing (lookL ll_s_RunSwing) Try.f46 [.ro true tTurn, .ro false (.int .i64)] (.tup [(false, (.slice (.flt .f32))), (true, tTurn), (false, .bool)]) (s, steps, ()) = g_s_RunSwing s steps := by kernel_rfl
def m_s_RunSwing : FM := { ps := [.ro true tTurn, .ro false (.int .i64)], res := .tup [(false, (.slice (.flt .f32))), (true, tTurn), (false, .bool)], run := fun x => g_s_RunSwing x.1 x.2.1 }
set_option maxRecDepth 4000 in
theorem ok_s_RunSwing : FmOK Try.prog 46 m_s_RunSwing := @FmOK.made Try.prog E_s_RunSwing ek_s_RunSwing 46 Try.f46 (lookL ll_s_RunSwing) m_s_RunSwing Try.func46 (by kernel_rfl) lo_s_RunSwing fun ds out _ hr => by obtain ⟨s, steps, ⟨⟩⟩ := ds; exact (ev_s_RunSwing s steps).trans hr

def E_i_isMoves : Tabs := (mkE tab [] [])
set_option maxRecDepth 4000 in
theorem ek_i_isMoves : EnvOK Try.prog E_i_isMoves := (mkE_ok tab_ok mixed AllF.nil AllX.nil)
theorem ev_i_isMoves (steps : Int) : evalF E_i_isMoves noL Try.f55 [.ro false (.int .i64)] (.one false .bool) (steps, ()) = g_i_isMoves steps := by kernel_rfl
def m_i_isMoves : FM := { ps := [.ro false (.int .i64)], res := .one false .bool, run := fun x => some (t_i_isMoves x.1) }
set_option maxRecDepth 4000 in
theorem ok_i_isMoves : FmOK Try.prog 55 m_i_isMoves := @FmOK.made Try.prog E_i_isMoves ek_i_isMoves 55 Try.f55 noL m_i_isMoves Try.func55 (by kernel_rfl) (Loops.none (by kernel_rfl)) fun ds out _ hr => by obtain ⟨steps, ⟨⟩⟩ := ds; exact (ev_i_isMoves steps).trans ((q_i_isMoves steps).trans hr)

theorem xr_bits (b : Nat) (w : World) : (callFunc 67 #[.float .f64 b]).run Try.prog w = .ok (.value (.int .u64 b)) w := by
  rw [run_callFunc_extern (e := Extern.MathFloatBits.float64bits) Try.func67 rfl rfl (by kernel_rfl) (by kernel_rfl)]; rfl
theorem xr_from (n : Int) (w : World) : (callFunc 75 #[.int .u64 n]).run Try.prog w = .ok (.value (.float .f64 n.toNat)) w := by
  rw [run_callFunc_extern (e := Extern.MathFloatBits.float64frombits) Try.func75 rfl rfl (by kernel_rfl) (by kernel_rfl)]; rfl

set_option maxHeartbeats 400000 in
theorem xr_abs (b : Nat) (w : World) : Calls Try.prog 62 #[.float .f64 b] w fun e w' => e = .returned (.float .f64 (iandNot .u64 b (2 ^ 63)).toNat) ∧ w' = w := by
  have h1 := xr_bits
  have h2 := xr_from
  go_enter Try.func62, Try.ntmps62
  go_wp2
  go_ret
  exact ⟨rfl, rfl⟩
set_option maxRecDepth 4000 in
theorem ok_mathabs : FmOK Try.prog 62 m_mathabs := FmOK.abs Try.func62 rfl (by kernel_rfl) xr_abs

set_option maxRecDepth 4000 in
theorem ok_archTrunc : FmOK Try.prog 88 m_archTrunc := FmOK.whole .zero (name := "math.archTrunc") Try.func88 (by kernel_rfl) rfl (by kernel_rfl) (by kernel_rfl)

def E_math_Trunc : Tabs := (mkE tab [(88, m_archTrunc)] [])
set_option maxRecDepth 4000 in
theorem ek_math_Trunc : EnvOK Try.prog E_math_Trunc := (mkE_ok tab_ok mixed (AllF.cons ok_archTrunc AllF.nil) AllX.nil)
theorem ev_math_Trunc (xx : Nat) : evalF E_math_Trunc noL Try.f87 [.ro false (.flt .f64)] (.one false (.flt .f64)) (xx, ()) = g_math_Trunc xx := by kernel_rfl
def m_math_Trunc : FM := { ps := [.ro false (.flt .f64)], res := .one false (.flt .f64), run := fun x => g_math_Trunc x.1 }
set_option maxRecDepth 4000 in
theorem ok_math_Trunc : FmOK Try.prog 87 m_math_Trunc := @FmOK.made Try.prog E_math_Trunc ek_math_Trunc 87 Try.f87 noL m_math_Trunc Try.func87 (by kernel_rfl) (Loops.none (by kernel_rfl)) fun ds out _ hr => by obtain ⟨xx, ⟨⟩⟩ := ds; exact (ev_math_Trunc xx).trans hr

def E_i_placesOf : Tabs := (mkE tab [(87, m_math_Trunc)] [])
set_option maxRecDepth 4000 in
theorem ek_i_placesOf : EnvOK Try.prog E_i_placesOf := (mkE_ok tab_ok mixed (AllF.cons ok_math_Trunc AllF.nil) AllX.nil)
theorem ev_i_placesOf (turns : Nat) : evalF E_i_placesOf noL Try.f86 [.ro false (.flt .f64)] (.one false (.flt .f64)) (turns, ()) = g_i_placesOf turns := by kernel_rfl
def m_i_placesOf : FM := { ps := [.ro false (.flt .f64)], res := .one false (.flt .f64), run := fun x => g_i_placesOf x.1 }
set_option maxRecDepth 4000 in
theorem ok_i_placesOf : FmOK Try.prog 86 m_i_placesOf := @FmOK.made Try.prog E_i_placesOf ek_i_placesOf 86 Try.f86 noL m_i_placesOf Try.func86 (by kernel_rfl) (Loops.none (by kernel_rfl)) fun ds out _ hr => by obtain ⟨turns, ⟨⟩⟩ := ds; exact (ev_i_placesOf turns).trans hr

def E_i_sine : Tabs := (mkE tab [(86, m_i_placesOf)] [])
set_option maxRecDepth 4000 in
theorem ek_i_sine : EnvOK Try.prog E_i_sine := (mkE_ok tab_ok mixed (AllF.cons ok_i_placesOf AllF.nil) AllX.nil)
def lm_L_i_sine_1 : LM := { mat := [], head := { slots := [(4, .dat false .bool), (5, .dat false (.flt .f64)), (6, .dat false (.flt .f64)), (7, .dat false (.flt .f64)), (8, .dat false (.int .i64))], blks := [] }, out := { slots := [(4, .dat false .bool), (5, .dat false (.flt .f64)), (7, .dat false (.flt .f64))], blks := [] }, ex := 0, rets := false, run := iter L_i_sine_1 fuel }
def ll_i_sine : List (Nat × LP) := [(11, .lm lm_L_i_sine_1)]
theorem rd_L_i_sine_1 (rec' : (Bool × Nat × Nat × Nat × Int × Unit) × (Unit) → Option ((Bool × Nat × Nat × Unit) × (Unit))) (turned : Bool) (z : Nat) (u : Nat) (p : Nat) (k : Int) : round E_i_sine (lookL ll_i_sine) lm_L_i_sine_1 49 (loopAt Try.f80 0) rec' ((turned, z, u, p, k, ()), (())) = L_i_sine_1 rec' ((turned, z, u, p, k, ()), (())) := by kernel_rfl
theorem lo_i_sine : Loops E_i_sine (lookL ll_i_sine) Try.f80 := Loops.list (by kernel_rfl) (by kernel_rfl) ⟨LoopOK.iter (step := L_i_sine_1) (N := fun _ => fuel) (fun rec' x => by obtain ⟨⟨turned, z, u, p, k, ⟨⟩⟩, ⟨⟨⟩⟩⟩ := x; exact rd_L_i_sine_1 rec' turned z u p k) fun _ => rfl, trivial⟩
theorem ev_i_sine (turns : Nat) : evalF E_i_sine (lookL ll_i_sine) Try.f80 [.ro false (.flt .f64)] (.one false (.flt .f64)) (turns, ()) = g_i_sine turns := by kernel_rfl
def m_i_sine : FM := { ps := [.ro false (.flt .f64)], res := .one false (.flt .f64), run := fun x => g_i_sine x.1 }
set_option maxRecDepth 4000 in
theorem ok_i_sine : FmOK Try.prog 80 m_i_sine := @FmOK.made Try.prog E_i_sine ek_i_sine 80 Try.f80 (lookL ll_i_sine) m_i_sine Try.func80 (by kernel_rfl) lo_i_sine fun ds out _ hr => by obtain ⟨turns, ⟨⟩⟩ := ds; exact (ev_i_sine turns).trans hr

def E_i_wideSine : Tabs := (mkE tab [(79, m_math_NaN), (62, m_mathabs), (80, m_i_sine)] [])
set_option maxRecDepth 4000 in
theorem ek_i_wideSine : EnvOK Try.prog E_i_wideSine := (mkE_ok tab_ok mixed (AllF.cons ok_math_NaN (AllF.cons ok_mathabs (AllF.cons ok_i_sine AllF.nil))) AllX.nil)
theorem ev_i_wideSine (turns : Nat) : evalF E_i_wideSine noL Try.f69 [.ro false (.flt .f64)] (.one false (.flt .f64)) (turns, ()) = g_i_wideSine turns := by kernel_rfl
def m_i_wideSine : FM := { ps := [.ro false (.flt .f64)], res := .one false (.flt .f64), run := fun x => g_i_wideSine x.1 }
set_option maxRecDepth 4000 in
theorem ok_i_wideSine : FmOK Try.prog 69 m_i_wideSine := @FmOK.made Try.prog E_i_wideSine ek_i_wideSine 69 Try.f69 noL m_i_wideSine Try.func69 (by kernel_rfl) (Loops.none (by kernel_rfl)) fun ds out _ hr => by obtain ⟨turns, ⟨⟩⟩ := ds; exact (ev_i_wideSine turns).trans hr

def E_i_SineTurns : Tabs := (mkE tab [(69, m_i_wideSine)] [])
set_option maxRecDepth 4000 in
theorem ek_i_SineTurns : EnvOK Try.prog E_i_SineTurns := (mkE_ok tab_ok mixed (AllF.cons ok_i_wideSine AllF.nil) AllX.nil)
theorem ev_i_SineTurns (xx : Nat) : evalF E_i_SineTurns noL Try.f58 [.ro false (.flt .f32)] (.one false (.flt .f32)) (xx, ()) = g_i_SineTurns xx := by kernel_rfl
def m_i_SineTurns : FM := { ps := [.ro false (.flt .f32)], res := .one false (.flt .f32), run := fun x => g_i_SineTurns x.1 }
set_option maxRecDepth 4000 in
theorem ok_i_SineTurns : FmOK Try.prog 58 m_i_SineTurns := @FmOK.made Try.prog E_i_SineTurns ek_i_SineTurns 58 Try.f58 noL m_i_SineTurns Try.func58 (by kernel_rfl) (Loops.none (by kernel_rfl)) fun ds out _ hr => by obtain ⟨xx, ⟨⟩⟩ := ds; exact (ev_i_SineTurns xx).trans hr

def E_i_IsSubnormal : Tabs := (mkE tab [(62, m_mathabs)] [])
set_option maxRecDepth 4000 in
theorem ek_i_IsSubnormal : EnvOK Try.prog E_i_IsSubnormal := (mkE_ok tab_ok mixed (AllF.cons ok_mathabs AllF.nil) AllX.nil)
theorem ev_i_IsSubnormal (xx : Nat) : evalF E_i_IsSubnormal noL Try.f42 [.ro false (.flt .f32)] (.one false .bool) (xx, ()) = g_i_IsSubnormal xx := by kernel_rfl
def m_i_IsSubnormal : FM := { ps := [.ro false (.flt .f32)], res := .one false .bool, run := fun x => some (t_i_IsSubnormal x.1) }
set_option maxRecDepth 4000 in
theorem ok_i_IsSubnormal : FmOK Try.prog 42 m_i_IsSubnormal := @FmOK.made Try.prog E_i_IsSubnormal ek_i_IsSubnormal 42 Try.f42 noL m_i_IsSubnormal Try.func42 (by kernel_rfl) (Loops.none (by kernel_rfl)) fun ds out _ hr => by obtain ⟨xx, ⟨⟩⟩ := ds; exact (ev_i_IsSubnormal xx).trans ((q_i_IsSubnormal xx).trans hr)

set_option maxRecDepth 4000 in
theorem ok_float64bits : FmOK Try.prog 67 m_float64bits := FmOK.bits (e := Extern.MathFloatBits.float64bits) Try.func67 (by kernel_rfl) rfl (by kernel_rfl) (by kernel_rfl) (fun _ _ => rfl) (by decide) (by decide)

def E_math_Copysign : Tabs := (mkE tab [(67, m_float64bits), (75, m_float64frombits)] [])
set_option maxRecDepth 4000 in
theorem ek_math_Copysign : EnvOK Try.prog E_math_Copysign := (mkE_ok tab_ok mixed (AllF.cons ok_float64bits (AllF.cons ok_float64frombits AllF.nil)) AllX.nil)
theorem ev_math_Copysign (f : Nat) (sign : Nat) : evalF E_math_Copysign noL Try.f68 [.ro false (.flt .f64), .ro false (.flt .f64)] (.one false (.flt .f64)) (f, sign, ()) = g_math_Copysign f sign := by kernel_rfl
def m_math_Copysign : FM := { ps := [.ro false (.flt .f64), .ro false (.flt .f64)], res := .one false (.flt .f64), run := fun x => g_math_Copysign x.1 x.2.1 }
set_option maxRecDepth 4000 in
theorem ok_math_Copysign : FmOK Try.prog 68 m_math_Copysign := @FmOK.made Try.prog E_math_Copysign ek_math_Copysign 68 Try.f68 noL m_math_Copysign Try.func68 (by kernel_rfl) (Loops.none (by kernel_rfl)) fun ds out _ hr => by obtain ⟨f, sign, ⟨⟩⟩ := ds; exact (ev_math_Copysign f sign).trans hr

def E_i_FlushNumber : Tabs := (mkE tab [(42, m_i_IsSubnormal), (68, m_math_Copysign)] [])
set_option maxRecDepth 4000 in
theorem ek_i_FlushNumber : EnvOK Try.prog E_i_FlushNumber := (mkE_ok tab_ok mixed (AllF.cons ok_i_IsSubnormal (AllF.cons ok_math_Copysign AllF.nil)) AllX.nil)
theorem ev_i_FlushNumber (xx : Nat) : evalF E_i_FlushNumber noL Try.f57 [.ro false (.flt .f32)] (.one false (.flt .f32)) (xx, ()) = g_i_FlushNumber xx := by kernel_rfl
def m_i_FlushNumber : FM := { ps := [.ro false (.flt .f32)], res := .one false (.flt .f32), run := fun x => g_i_FlushNumber x.1 }
set_option maxRecDepth 4000 in
theorem ok_i_FlushNumber : FmOK Try.prog 57 m_i_FlushNumber := @FmOK.made Try.prog E_i_FlushNumber ek_i_FlushNumber 57 Try.f57 noL m_i_FlushNumber Try.func57 (by kernel_rfl) (Loops.none (by kernel_rfl)) fun ds out _ hr => by obtain ⟨xx, ⟨⟩⟩ := ds; exact (ev_i_FlushNumber xx).trans hr

def E_i_StepSwing : Tabs := (mkE tab [(58, m_i_SineTurns), (57, m_i_FlushNumber)] [])
set_option maxRecDepth 4000 in
theorem ek_i_StepSwing : EnvOK Try.prog E_i_StepSwing := (mkE_ok tab_ok mixed (AllF.cons ok_i_SineTurns (AllF.cons ok_i_FlushNumber AllF.nil)) AllX.nil)
theorem ev_i_StepSwing (s : dTurn) : evalF E_i_StepSwing noL Try.f33 [.ro true tTurn] (.one true tTurn) (s, ()) = g_i_StepSwing s := by kernel_rfl
def m_i_StepSwing : FM := { ps := [.ro true tTurn], res := .one true tTurn, run := fun x => g_i_StepSwing x.1 }
set_option maxRecDepth 4000 in
theorem ok_i_StepSwing : FmOK Try.prog 33 m_i_StepSwing := @FmOK.made Try.prog E_i_StepSwing ek_i_StepSwing 33 Try.f33 noL m_i_StepSwing Try.func33 (by kernel_rfl) (Loops.none (by kernel_rfl)) fun ds out _ hr => by obtain ⟨s, ⟨⟩⟩ := ds; exact (ev_i_StepSwing s).trans hr

def E_i_RunSwing : Tabs := (mkE tab [(55, m_i_isMoves), (33, m_i_StepSwing)] [])
set_option maxRecDepth 4000 in
theorem ek_i_RunSwing : EnvOK Try.prog E_i_RunSwing := (mkE_ok tab_ok mixed (AllF.cons ok_i_isMoves (AllF.cons ok_i_StepSwing AllF.nil)) AllX.nil)
def lm_L_i_RunSwing_1 : LM := { mat := [.slot 7 (.flt .f32)], head := { slots := [(2, .cst (.ptr (.box 0 0))), (5, .cst (.ptr (.box 1 0))), (7, .cst (.sl (.row 2))), (12, .dat false (.int .i64)), (13, .dat false (.int .i64))], blks := [.box [.dat tTurn], .box [.dat tTurn], .row false (.flt .f32)] }, out := { slots := [(2, .cst (.ptr (.box 0 0))), (5, .cst (.ptr (.box 1 0))), (7, .cst (.sl (.row 2)))], blks := [.box [.dat tTurn], .box [.dat tTurn], .row false (.flt .f32)] }, ex := 0, rets := false, run := iter L_i_RunSwing_1 fuel }
def ll_i_RunSwing : List (Nat × LP) := [(5, .lm lm_L_i_RunSwing_1)]
theorem rd_L_i_RunSwing_1 (rec' : (Int × Int × Unit) × ((dTurn × Unit) × (dTurn × Unit) × (List Nat) × Unit) → Option ((Unit) × ((dTurn × Unit) × (dTurn × Unit) × (List Nat) × Unit))) (t12 : Int) (t13 : Int) (b0 : dTurn) (b1 : dTurn) (r2 : (List Nat)) : round E_i_RunSwing (lookL ll_i_RunSwing) lm_L_i_RunSwing_1 25 (loopAt Try.f30 0) rec' ((t12, t13, ()), ((b0, ()), (b1, ()), r2, ())) = L_i_RunSwing_1 rec' ((t12, t13, ()), ((b0, ()), (b1, ()), r2, ())) := by kernel_rfl
theorem lo_i_RunSwing : Loops E_i_RunSwing (lookL ll_i_RunSwing) Try.f30 := Loops.list (by kernel_rfl) (by kernel_rfl) ⟨LoopOK.iter (step := L_i_RunSwing_1) (N := fun _ => fuel) (fun rec' x => by obtain ⟨⟨t12, t13, ⟨⟩⟩, ⟨⟨b0, ⟨⟩⟩, ⟨b1, ⟨⟩⟩, r2, ⟨⟩⟩⟩ := x; exact rd_L_i_RunSwing_1 rec' t12 t13 b0 b1 r2) fun _ => rfl, trivial⟩
theorem ev_i_RunSwing (s : dTurn) (steps : Int) : evalF E_i_RunSwing (lookL ll_i_RunSwing) Try.f30 [.ro true tTurn, .ro false (.int .i64)] (.tup [(false, (.slice (.flt .f32))), (true, tTurn), (false, .bool)]) (s, steps, ()) = g_i_RunSwing s steps := by kernel_rfl
def m_i_RunSwing : FM := { ps := [.ro true tTurn, .ro false (.int .i64)], res := .tup [(false, (.slice (.flt .f32))), (true, tTurn), (false, .bool)], run := fun x => g_i_RunSwing x.1 x.2.1 }
set_option maxRecDepth 4000 in
theorem ok_i_RunSwing : FmOK Try.prog 30 m_i_RunSwing := @FmOK.made Try.prog E_i_RunSwing ek_i_RunSwing 30 Try.f30 (lookL ll_i_RunSwing) m_i_RunSwing Try.func30 (by kernel_rfl) lo_i_RunSwing fun ds out _ hr => by obtain ⟨s, steps, ⟨⟩⟩ := ds; exact (ev_i_RunSwing s steps).trans hr

def E_w_sameFloat : Tabs := (mkE tab [] [])
set_option maxRecDepth 4000 in
theorem ek_w_sameFloat : EnvOK Try.prog E_w_sameFloat := (mkE_ok tab_ok mixed AllF.nil AllX.nil)
theorem ev_w_sameFloat (a : Nat) (b : Nat) : evalF E_w_sameFloat noL Try.f50 [.ro false (.flt .f64), .ro false (.flt .f64)] (.one false .bool) (a, b, ()) = g_w_sameFloat a b := by kernel_rfl
def m_w_sameFloat : FM := { ps := [.ro false (.flt .f64), .ro false (.flt .f64)], res := .one false .bool, run := fun x => some (t_w_sameFloat x.1 x.2.1) }
set_option maxRecDepth 4000 in
theorem ok_w_sameFloat : FmOK Try.prog 50 m_w_sameFloat := @FmOK.made Try.prog E_w_sameFloat ek_w_sameFloat 50 Try.f50 noL m_w_sameFloat Try.func50 (by kernel_rfl) (Loops.none (by kernel_rfl)) fun ds out _ hr => by obtain ⟨a, b, ⟨⟩⟩ := ds; exact (ev_w_sameFloat a b).trans ((q_w_sameFloat a b).trans hr)

def E_w_eqFloat32S : Tabs := (mkE tab [(50, m_w_sameFloat)] [])
set_option maxRecDepth 4000 in
theorem ek_w_eqFloat32S : EnvOK Try.prog E_w_eqFloat32S := (mkE_ok tab_ok mixed (AllF.cons ok_w_sameFloat AllF.nil) AllX.nil)
def lm_L_w_eqFloat32S_1 : LM := { mat := [], head := { slots := [(0, .dat false (.slice (.flt .f32))), (1, .dat false (.slice (.flt .f32))), (4, .dat false .bool), (5, .dat false (.int .i64))], blks := [] }, out := { slots := [(4, .dat false .bool)], blks := [] }, ex := 0, rets := true, run := iter L_w_eqFloat32S_1 fuel }
def ll_w_eqFloat32S : List (Nat × LP) := [(4, .lm lm_L_w_eqFloat32S_1)]
theorem rd_L_w_eqFloat32S_1 (rec' : ((List Nat) × (List Nat) × Bool × Int × Unit) × (Unit) → Option (Bool × ((Bool × Unit) × (Unit)))) (a : (List Nat)) (b : (List Nat)) (t4 : Bool) (i : Int) : round E_w_eqFloat32S (lookL ll_w_eqFloat32S) lm_L_w_eqFloat32S_1 29 (loopAt Try.f37 0) rec' ((a, b, t4, i, ()), (())) = L_w_eqFloat32S_1 rec' ((a, b, t4, i, ()), (())) := by kernel_rfl
theorem lo_w_eqFloat32S : Loops E_w_eqFloat32S (lookL ll_w_eqFloat32S) Try.f37 := Loops.list (by kernel_rfl) (by kernel_rfl) ⟨LoopOK.iter (step := L_w_eqFloat32S_1) (N := fun _ => fuel) (fun rec' x => by obtain ⟨⟨a, b, t4, i, ⟨⟩⟩, ⟨⟨⟩⟩⟩ := x; exact rd_L_w_eqFloat32S_1 rec' a b t4 i) fun _ => rfl, trivial⟩
theorem ev_w_eqFloat32S (a : (List Nat)) (b : (List Nat)) : evalF E_w_eqFloat32S (lookL ll_w_eqFloat32S) Try.f37 [.ro false (.slice (.flt .f32)), .ro false (.slice (.flt .f32))] (.one false .bool) (a, b, ()) = g_w_eqFloat32S a b := by kernel_rfl
def m_w_eqFloat32S : FM := { ps := [.ro false (.slice (.flt .f32)), .ro false (.slice (.flt .f32))], res := .one false .bool, run := fun x => g_w_eqFloat32S x.1 x.2.1 }
set_option maxRecDepth 4000 in
theorem ok_w_eqFloat32S : FmOK Try.prog 37 m_w_eqFloat32S := @FmOK.made Try.prog E_w_eqFloat32S ek_w_eqFloat32S 37 Try.f37 (lookL ll_w_eqFloat32S) m_w_eqFloat32S Try.func37 (by kernel_rfl) lo_w_eqFloat32S fun ds out _ hr => by obtain ⟨a, b, ⟨⟩⟩ := ds; exact (ev_w_eqFloat32S a b).trans hr

def E_w_eqSwing : Tabs := (mkE tab [(50, m_w_sameFloat)] [])
set_option maxRecDepth 4000 in
theorem ek_w_eqSwing : EnvOK Try.prog E_w_eqSwing := (mkE_ok tab_ok mixed (AllF.cons ok_w_sameFloat AllF.nil) AllX.nil)
theorem ev_w_eqSwing (a : dTurn) (b : dTurn) : evalF E_w_eqSwing noL Try.f45 [.ro true tTurn, .ro true tTurn] (.one false .bool) (a, b, ()) = g_w_eqSwing a b := by kernel_rfl
def m_w_eqSwing : FM := { ps := [.ro true tTurn, .ro true tTurn], res := .one false .bool, run := fun x => some (t_w_eqSwing x.1 x.2.1) }
set_option maxRecDepth 4000 in
theorem ok_w_eqSwing : FmOK Try.prog 45 m_w_eqSwing := @FmOK.made Try.prog E_w_eqSwing ek_w_eqSwing 45 Try.f45 noL m_w_eqSwing Try.func45 (by kernel_rfl) (Loops.none (by kernel_rfl)) fun ds out _ hr => by obtain ⟨a, b, ⟨⟩⟩ := ds; exact (ev_w_eqSwing a b).trans ((q_w_eqSwing a b).trans hr)

def E_w_markFloat32S : Tabs := (mkE tab [] [])
set_option maxRecDepth 4000 in
theorem ek_w_markFloat32S : EnvOK Try.prog E_w_markFloat32S := (mkE_ok tab_ok mixed AllF.nil AllX.nil)
def lm_L_w_markFloat32S_1 : LM := { mat := [], head := { slots := [(0, .cst (.sl (.row 0))), (1, .dat false (.int .i64)), (5, .dat false (.int .i64))], blks := [.row true (.flt .f32)] }, out := { slots := [(1, .dat false (.int .i64))], blks := [.row true (.flt .f32)] }, ex := 0, rets := false, run := iter L_w_markFloat32S_1 fuel }
def ll_w_markFloat32S : List (Nat × LP) := [(2, .lm lm_L_w_markFloat32S_1)]
theorem rd_L_w_markFloat32S_1 (rec' : (Int × Int × Unit) × ((List Nat) × Unit) → Option ((Int × Unit) × ((List Nat) × Unit))) (k : Int) (i : Int) (r0 : (List Nat)) : round E_w_markFloat32S (lookL ll_w_markFloat32S) lm_L_w_markFloat32S_1 20 (loopAt Try.f38 0) rec' ((k, i, ()), (r0, ())) = L_w_markFloat32S_1 rec' ((k, i, ()), (r0, ())) := by kernel_rfl
theorem lo_w_markFloat32S : Loops E_w_markFloat32S (lookL ll_w_markFloat32S) Try.f38 := Loops.list (by kernel_rfl) (by kernel_rfl) ⟨LoopOK.iter (step := L_w_markFloat32S_1) (N := fun _ => fuel) (fun rec' x => by obtain ⟨⟨k, i, ⟨⟩⟩, ⟨r0, ⟨⟩⟩⟩ := x; exact rd_L_w_markFloat32S_1 rec' k i r0) fun _ => rfl, trivial⟩
theorem ev_w_markFloat32S (a : (List Nat)) (k : Int) : evalX E_w_markFloat32S (lookL ll_w_markFloat32S) Try.f38 [.own false (.slice (.flt .f32)), .ro false (.int .i64)] (.one false (.int .i64)) (a, k, ()) = g_w_markFloat32S a k := by kernel_rfl
def m_w_markFloat32S : FX := { ps := [.own false (.slice (.flt .f32)), .ro false (.int .i64)], res := .one false (.int .i64), run := fun x => g_w_markFloat32S x.1 x.2.1 }
set_option maxRecDepth 4000 in
theorem ok_w_markFloat32S : FxOK Try.prog 38 m_w_markFloat32S := @FxOK.made Try.prog E_w_markFloat32S ek_w_markFloat32S 38 Try.f38 (lookL ll_w_markFloat32S) m_w_markFloat32S Try.func38 (by kernel_rfl) lo_w_markFloat32S fun ds out _ hr => by obtain ⟨a, k, ⟨⟩⟩ := ds; exact (ev_w_markFloat32S a k).trans hr

def E_w_heldFloat32S : Tabs := (mkE tab [] [])
set_option maxRecDepth 4000 in
theorem ek_w_heldFloat32S : EnvOK Try.prog E_w_heldFloat32S := (mkE_ok tab_ok mixed AllF.nil AllX.nil)
def lm_L_w_heldFloat32S_1 : LM := { mat := [], head := { slots := [(0, .dat false (.slice (.flt .f32))), (1, .dat false (.int .i64)), (4, .dat false (.int .i64)), (5, .dat false (.int .i64))], blks := [] }, out := { slots := [(1, .dat false (.int .i64)), (4, .dat false (.int .i64))], blks := [] }, ex := 0, rets := true, run := iter L_w_heldFloat32S_1 fuel }
def ll_w_heldFloat32S : List (Nat × LP) := [(2, .lm lm_L_w_heldFloat32S_1)]
theorem rd_L_w_heldFloat32S_1 (rec' : ((List Nat) × Int × Int × Int × Unit) × (Unit) → Option (Bool × ((Int × Int × Unit) × (Unit)))) (a : (List Nat)) (k : Int) (t4 : Int) (i : Int) : round E_w_heldFloat32S (lookL ll_w_heldFloat32S) lm_L_w_heldFloat32S_1 22 (loopAt Try.f39 0) rec' ((a, k, t4, i, ()), (())) = L_w_heldFloat32S_1 rec' ((a, k, t4, i, ()), (())) := by kernel_rfl
theorem lo_w_heldFloat32S : Loops E_w_heldFloat32S (lookL ll_w_heldFloat32S) Try.f39 := Loops.list (by kernel_rfl) (by kernel_rfl) ⟨LoopOK.iter (step := L_w_heldFloat32S_1) (N := fun _ => fuel) (fun rec' x => by obtain ⟨⟨a, k, t4, i, ⟨⟩⟩, ⟨⟨⟩⟩⟩ := x; exact rd_L_w_heldFloat32S_1 rec' a k t4 i) fun _ => rfl, trivial⟩
theorem ev_w_heldFloat32S (a : (List Nat)) (k : Int) : evalF E_w_heldFloat32S (lookL ll_w_heldFloat32S) Try.f39 [.ro false (.slice (.flt .f32)), .ro false (.int .i64)] (.one false (.int .i64)) (a, k, ()) = g_w_heldFloat32S a k := by kernel_rfl
def m_w_heldFloat32S : FM := { ps := [.ro false (.slice (.flt .f32)), .ro false (.int .i64)], res := .one false (.int .i64), run := fun x => g_w_heldFloat32S x.1 x.2.1 }
set_option maxRecDepth 4000 in
theorem ok_w_heldFloat32S : FmOK Try.prog 39 m_w_heldFloat32S := @FmOK.made Try.prog E_w_heldFloat32S ek_w_heldFloat32S 39 Try.f39 (lookL ll_w_heldFloat32S) m_w_heldFloat32S Try.func39 (by kernel_rfl) lo_w_heldFloat32S fun ds out _ hr => by obtain ⟨a, k, ⟨⟩⟩ := ds; exact (ev_w_heldFloat32S a k).trans hr

def E_w_FnExactRunSwing : Tabs := (mkE tab [(44, m_w_toSwing), (46, m_s_RunSwing), (30, m_i_RunSwing), (37, m_w_eqFloat32S), (45, m_w_eqSwing), (39, m_w_heldFloat32S)] [(38, m_w_markFloat32S)])
set_option maxRecDepth 4000 in
theorem ek_w_FnExactRunSwing : EnvOK Try.prog E_w_FnExactRunSwing := (mkE_ok tab_ok mixed (AllF.cons ok_w_toSwing (AllF.cons ok_s_RunSwing (AllF.cons ok_i_RunSwing (AllF.cons ok_w_eqFloat32S (AllF.cons ok_w_eqSwing (AllF.cons ok_w_heldFloat32S AllF.nil)))))) (AllX.cons ok_w_markFloat32S AllX.nil))
theorem ev_w_FnExactRunSwing (aS : dTurn) (aSteps : Int) : evalF E_w_FnExactRunSwing noL Try.f12 [.ro true tTurn, .ro false (.int .i64)] (.one false .bool) (aS, aSteps, ()) = g_w_FnExactRunSwing aS aSteps := by kernel_rfl
end
end Go.Fw.S
