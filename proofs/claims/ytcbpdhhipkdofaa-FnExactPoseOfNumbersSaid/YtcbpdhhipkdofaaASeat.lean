/- The functions of the translation compute what the plain functions compute. No condition. -/
import Derived.Test.YtcbpdhhipkdofaaAPure
import Derived.Test.YtcbpdhhipkdofaaProg
import Derived.KernelRfl
set_option linter.unusedVariables false
namespace Go.Fw.A
open Go.Fw Go.Proofs
def tab : List (Nat × TI) := [
  (2, { und := .int .i64, size := 1, bytes := 8, zero := [.int .i64 0], ty := (.int .i64) }),
  (3, { und := .int .i64, size := 1, bytes := 8, zero := [.int .i64 0], ty := (.int .i64) }),
  (4, { und := .bool, size := 1, bytes := 1, zero := [.bool false], ty := .bool }),
  (22, { und := .slice 28, size := 1, bytes := 24, zero := [.sl .nil], ty := (.slice (.flt .f32)) }),
  (26, { und := .slice 56, size := 1, bytes := 24, zero := [.sl .nil], ty := (.slice tVec) }),
  (28, { und := .flt .f32, size := 1, bytes := 4, zero := [.flt .f32 0], ty := (.flt .f32) }),
  (30, { und := .struct [(0, 28), (1, 28), (2, 28)], size := 3, bytes := 12, zero := [.flt .f32 0, .flt .f32 0, .flt .f32 0], ty := tVec }),
  (33, { und := .slice 30, size := 1, bytes := 24, zero := [.sl .nil], ty := (.slice tVec) }),
  (38, { und := .slice 89, size := 1, bytes := 24, zero := [.sl .nil], ty := (.slice (.slice (.int .i64))) }),
  (48, { und := .slice 113, size := 1, bytes := 24, zero := [.sl .nil], ty := (.slice tTurn) }),
  (50, { und := .struct [(0, 30), (3, 48)], size := 4, bytes := 40, zero := [.flt .f32 0, .flt .f32 0, .flt .f32 0, .sl .nil], ty := tPose }),
  (55, { und := .slice 4, size := 1, bytes := 24, zero := [.sl .nil], ty := (.slice .bool) }),
  (56, { und := .struct [(0, 28), (1, 28), (2, 28)], size := 3, bytes := 12, zero := [.flt .f32 0, .flt .f32 0, .flt .f32 0], ty := tVec }),
  (58, { und := .struct [(0, 26), (1, 26), (2, 55), (3, 22), (4, 56), (7, 28), (8, 2)], size := 9, bytes := 120, zero := [.sl .nil, .sl .nil, .sl .nil, .sl .nil, .flt .f32 0, .flt .f32 0, .flt .f32 0, .flt .f32 0, .int .i64 0], ty := tString }),
  (62, { und := .struct [(0, 33), (1, 33), (2, 55), (3, 22), (4, 30), (7, 28), (8, 2)], size := 9, bytes := 120, zero := [.sl .nil, .sl .nil, .sl .nil, .sl .nil, .flt .f32 0, .flt .f32 0, .flt .f32 0, .flt .f32 0, .int .i64 0], ty := tString }),
  (69, { und := .flt .f64, size := 1, bytes := 8, zero := [.flt .f64 0], ty := (.flt .f64) }),
  (71, { und := .slice 146, size := 1, bytes := 24, zero := [.sl .nil], ty := (.slice tTurn) }),
  (73, { und := .struct [(0, 56), (3, 71)], size := 4, bytes := 40, zero := [.flt .f32 0, .flt .f32 0, .flt .f32 0, .sl .nil], ty := tPose }),
  (78, { und := .slice 73, size := 1, bytes := 24, zero := [.sl .nil], ty := (.slice tPose) }),
  (80, { und := .struct [(0, 2), (1, 78)], size := 2, bytes := 32, zero := [.int .i64 0, .sl .nil], ty := tRec }),
  (83, { und := .slice 50, size := 1, bytes := 24, zero := [.sl .nil], ty := (.slice tPose) }),
  (85, { und := .struct [(0, 2), (1, 83)], size := 2, bytes := 32, zero := [.int .i64 0, .sl .nil], ty := tRec }),
  (89, { und := .slice 2, size := 1, bytes := 24, zero := [.sl .nil], ty := (.slice (.int .i64)) }),
  (109, { und := .other, size := 1, bytes := 8, zero := [.undef], ty := .unit }),
  (113, { und := .struct [(0, 28), (1, 28), (2, 28), (3, 28)], size := 4, bytes := 16, zero := [.flt .f32 0, .flt .f32 0, .flt .f32 0, .flt .f32 0], ty := tTurn }),
  (118, { und := .other, size := 1, bytes := 8, zero := [.pnil], ty := .unit }),
  (125, { und := .other, size := 1, bytes := 8, zero := [.pnil], ty := .unit }),
  (128, { und := .other, size := 1, bytes := 8, zero := [.undef], ty := .unit }),
  (132, { und := .other, size := 1, bytes := 8, zero := [.pnil], ty := .unit }),
  (146, { und := .struct [(0, 28), (1, 28), (2, 28), (3, 28)], size := 4, bytes := 16, zero := [.flt .f32 0, .flt .f32 0, .flt .f32 0, .flt .f32 0], ty := tTurn }),
  (150, { und := .int .u64, size := 1, bytes := 8, zero := [.int .u64 0], ty := (.int .u64) }),
  (157, { und := .int .u32, size := 1, bytes := 4, zero := [.int .u32 0], ty := (.int .u32) }),
  (160, { und := .int .u64, size := 1, bytes := 8, zero := [.int .u64 0], ty := (.int .u64) })]
theorem tab_ok : TabOK Try.prog (lookT tab) := tabB_spec (by kernel_rfl)
theorem mixed : Try.prog.follows .mixedOrders = true := by kernel_rfl
def E_w_toFloat32S : Tabs := (mkE tab [] [])
set_option maxRecDepth 4000 in
theorem ek_w_toFloat32S : EnvOK Try.prog E_w_toFloat32S := (mkE_ok tab_ok mixed AllF.nil AllX.nil)
def lm_L_w_toFloat32S_1 : LM := { mat := [], head := { slots := [(0, .dat false (.slice (.flt .f32))), (3, .cst (.sl (.row 0))), (4, .dat false (.int .i64))], blks := [.row false (.flt .f32)] }, out := { slots := [(3, .cst (.sl (.row 0)))], blks := [.row false (.flt .f32)] }, ex := 0, rets := false, run := iter L_w_toFloat32S_1 fuel }
def ll_w_toFloat32S : List (Nat × LP) := [(3, .lm lm_L_w_toFloat32S_1)]
theorem rd_L_w_toFloat32S_1 (rec' : ((List Nat) × Int × Unit) × ((List Nat) × Unit) → Option ((Unit) × ((List Nat) × Unit))) (a : (List Nat)) (i : Int) (r0 : (List Nat)) : round E_w_toFloat32S (lookL ll_w_toFloat32S) lm_L_w_toFloat32S_1 22 (loopAt Try.f16 0) rec' ((a, i, ()), (r0, ())) = L_w_toFloat32S_1 rec' ((a, i, ()), (r0, ())) := by kernel_rfl
theorem lo_w_toFloat32S : Loops E_w_toFloat32S (lookL ll_w_toFloat32S) Try.f16 := Loops.list (by kernel_rfl) (by kernel_rfl) ⟨LoopOK.iter (step := L_w_toFloat32S_1) (N := fun _ => fuel) (fun rec' x => by obtain ⟨⟨a, i, ⟨⟩⟩, ⟨r0, ⟨⟩⟩⟩ := x; exact rd_L_w_toFloat32S_1 rec' a i r0) fun _ => rfl, trivial⟩
theorem ev_w_toFloat32S (a : (List Nat)) : evalF E_w_toFloat32S (lookL ll_w_toFloat32S) Try.f16 [.ro false (.slice (.flt .f32))] (.one false (.slice (.flt .f32))) (a, ()) = g_w_toFloat32S a := by kernel_rfl
def m_w_toFloat32S : FM := { ps := [.ro false (.slice (.flt .f32))], res := .one false (.slice (.flt .f32)), run := fun x => g_w_toFloat32S x.1 }
set_option maxRecDepth 4000 in
theorem ok_w_toFloat32S : FmOK Try.prog 16 m_w_toFloat32S := @FmOK.made Try.prog E_w_toFloat32S ek_w_toFloat32S 16 Try.f16 (lookL ll_w_toFloat32S) m_w_toFloat32S Try.func16 (by kernel_rfl) lo_w_toFloat32S fun ds out _ hr => by obtain ⟨a, ⟨⟩⟩ := ds; exact (ev_w_toFloat32S a).trans hr

def E_s_l01Finite : Tabs := (mkE tab [] [])
set_option maxRecDepth 4000 in
theorem ek_s_l01Finite : EnvOK Try.prog E_s_l01Finite := (mkE_ok tab_ok mixed AllF.nil AllX.nil)
theorem ev_s_l01Finite (xx : Nat) : evalF E_s_l01Finite noL Try.f121 [.ro false (.flt .f32)] (.one false .bool) (xx, ()) = g_s_l01Finite xx := by kernel_rfl
def m_s_l01Finite : FM := { ps := [.ro false (.flt .f32)], res := .one false .bool, run := fun x => some (t_s_l01Finite x.1) }
set_option maxRecDepth 4000 in
theorem ok_s_l01Finite : FmOK Try.prog 121 m_s_l01Finite := @FmOK.made Try.prog E_s_l01Finite ek_s_l01Finite 121 Try.f121 noL m_s_l01Finite Try.func121 (by kernel_rfl) (Loops.none (by kernel_rfl)) fun ds out _ hr => by obtain ⟨xx, ⟨⟩⟩ := ds; exact (ev_s_l01Finite xx).trans ((q_s_l01Finite xx).trans hr)

def E_s_l07Scale : Tabs := (mkE tab [(121, m_s_l01Finite)] [])
set_option maxRecDepth 4000 in
theorem ek_s_l07Scale : EnvOK Try.prog E_s_l07Scale := (mkE_ok tab_ok mixed (AllF.cons ok_s_l01Finite AllF.nil) AllX.nil)
def lm_L_s_l07Scale_1 : LM := { mat := [], head := { slots := [(0, .dat false (.slice (.flt .f32))), (2, .dat false .bool), (5, .dat false (.int .i64)), (6, .dat false (.int .i64))], blks := [] }, out := { slots := [(0, .dat false (.slice (.flt .f32))), (2, .dat false .bool)], blks := [] }, ex := 0, rets := true, run := iter L_s_l07Scale_1 fuel }
def ll_s_l07Scale : List (Nat × LP) := [(2, .lm lm_L_s_l07Scale_1)]
theorem rd_L_s_l07Scale_1 (rec' : ((List Nat) × Bool × Int × Int × Unit) × (Unit) → Option (Bool × (((List Nat) × Bool × Unit) × (Unit)))) (points : (List Nat)) (t2 : Bool) (t5 : Int) (t6 : Int) : round E_s_l07Scale (lookL ll_s_l07Scale) lm_L_s_l07Scale_1 40 (loopAt Try.f71 0) rec' ((points, t2, t5, t6, ()), (())) = L_s_l07Scale_1 rec' ((points, t2, t5, t6, ()), (())) := by kernel_rfl
theorem lo_s_l07Scale : Loops E_s_l07Scale (lookL ll_s_l07Scale) Try.f71 := Loops.list (by kernel_rfl) (by kernel_rfl) ⟨LoopOK.iter (step := L_s_l07Scale_1) (N := fun _ => fuel) (fun rec' x => by obtain ⟨⟨points, t2, t5, t6, ⟨⟩⟩, ⟨⟨⟩⟩⟩ := x; exact rd_L_s_l07Scale_1 rec' points t2 t5 t6) fun _ => rfl, trivial⟩
theorem ev_s_l07Scale (points : (List Nat)) : evalF E_s_l07Scale (lookL ll_s_l07Scale) Try.f71 [.ro false (.slice (.flt .f32))] (.one false .bool) (points, ()) = g_s_l07Scale points := by kernel_rfl
def m_s_l07Scale : FM := { ps := [.ro false (.slice (.flt .f32))], res := .one false .bool, run := fun x => g_s_l07Scale x.1 }
set_option maxRecDepth 4000 in
theorem ok_s_l07Scale : FmOK Try.prog 71 m_s_l07Scale := @FmOK.made Try.prog E_s_l07Scale ek_s_l07Scale 71 Try.f71 (lookL ll_s_l07Scale) m_s_l07Scale Try.func71 (by kernel_rfl) lo_s_l07Scale fun ds out _ hr => by obtain ⟨points, ⟨⟩⟩ := ds; exact (ev_s_l07Scale points).trans hr

def E_s_IsScale : Tabs := (mkE tab [(71, m_s_l07Scale)] [])
set_option maxRecDepth 4000 in
theorem ek_s_IsScale : EnvOK Try.prog E_s_IsScale := (mkE_ok tab_ok mixed (AllF.cons ok_s_l07Scale AllF.nil) AllX.nil)
theorem ev_s_IsScale (points : (List Nat)) : evalF E_s_IsScale noL Try.f15 [.ro false (.slice (.flt .f32))] (.one false .bool) (points, ()) = g_s_IsScale points := by kernel_rfl
def m_s_IsScale : FM := { ps := [.ro false (.slice (.flt .f32))], res := .one false .bool, run := fun x => g_s_IsScale x.1 }
set_option maxRecDepth 4000 in
theorem ok_s_IsScale : FmOK Try.prog 15 m_s_IsScale := @FmOK.made Try.prog E_s_IsScale ek_s_IsScale 15 Try.f15 noL m_s_IsScale Try.func15 (by kernel_rfl) (Loops.none (by kernel_rfl)) fun ds out _ hr => by obtain ⟨points, ⟨⟩⟩ := ds; exact (ev_s_IsScale points).trans hr

def E_i_IsFinite : Tabs := (mkE tab [] [])
set_option maxRecDepth 4000 in
theorem ek_i_IsFinite : EnvOK Try.prog E_i_IsFinite := (mkE_ok tab_ok mixed AllF.nil AllX.nil)
theorem ev_i_IsFinite (xx : Nat) : evalF E_i_IsFinite noL Try.f72 [.ro false (.flt .f32)] (.one false .bool) (xx, ()) = g_i_IsFinite xx := by kernel_rfl
def m_i_IsFinite : FM := { ps := [.ro false (.flt .f32)], res := .one false .bool, run := fun x => some (t_i_IsFinite x.1) }
set_option maxRecDepth 4000 in
theorem ok_i_IsFinite : FmOK Try.prog 72 m_i_IsFinite := @FmOK.made Try.prog E_i_IsFinite ek_i_IsFinite 72 Try.f72 noL m_i_IsFinite Try.func72 (by kernel_rfl) (Loops.none (by kernel_rfl)) fun ds out _ hr => by obtain ⟨xx, ⟨⟩⟩ := ds; exact (ev_i_IsFinite xx).trans ((q_i_IsFinite xx).trans hr)

def E_i_IsScale : Tabs := (mkE tab [(72, m_i_IsFinite)] [])
set_option maxRecDepth 4000 in
theorem ek_i_IsScale : EnvOK Try.prog E_i_IsScale := (mkE_ok tab_ok mixed (AllF.cons ok_i_IsFinite AllF.nil) AllX.nil)
def lm_L_i_IsScale_1 : LM := { mat := [], head := { slots := [(0, .dat false (.slice (.flt .f32))), (2, .dat false .bool), (5, .dat false (.slice (.flt .f32))), (6, .dat false (.int .i64)), (7, .dat false (.int .i64))], blks := [] }, out := { slots := [(0, .dat false (.slice (.flt .f32))), (2, .dat false .bool)], blks := [] }, ex := 0, rets := true, run := iter L_i_IsScale_1 fuel }
def ll_i_IsScale : List (Nat × LP) := [(2, .lm lm_L_i_IsScale_1)]
theorem rd_L_i_IsScale_1 (rec' : ((List Nat) × Bool × (List Nat) × Int × Int × Unit) × (Unit) → Option (Bool × (((List Nat) × Bool × Unit) × (Unit)))) (points : (List Nat)) (t2 : Bool) (t5 : (List Nat)) (t6 : Int) (t7 : Int) : round E_i_IsScale (lookL ll_i_IsScale) lm_L_i_IsScale_1 37 (loopAt Try.f17 0) rec' ((points, t2, t5, t6, t7, ()), (())) = L_i_IsScale_1 rec' ((points, t2, t5, t6, t7, ()), (())) := by kernel_rfl
theorem lo_i_IsScale : Loops E_i_IsScale (lookL ll_i_IsScale) Try.f17 := Loops.list (by kernel_rfl) (by kernel_rfl) ⟨LoopOK.iter (step := L_i_IsScale_1) (N := fun _ => fuel) (fun rec' x => by obtain ⟨⟨points, t2, t5, t6, t7, ⟨⟩⟩, ⟨⟨⟩⟩⟩ := x; exact rd_L_i_IsScale_1 rec' points t2 t5 t6 t7) fun _ => rfl, trivial⟩
theorem ev_i_IsScale (points : (List Nat)) : evalF E_i_IsScale (lookL ll_i_IsScale) Try.f17 [.ro false (.slice (.flt .f32))] (.one false .bool) (points, ()) = g_i_IsScale points := by kernel_rfl
def m_i_IsScale : FM := { ps := [.ro false (.slice (.flt .f32))], res := .one false .bool, run := fun x => g_i_IsScale x.1 }
set_option maxRecDepth 4000 in
theorem ok_i_IsScale : FmOK Try.prog 17 m_i_IsScale := @FmOK.made Try.prog E_i_IsScale ek_i_IsScale 17 Try.f17 (lookL ll_i_IsScale) m_i_IsScale Try.func17 (by kernel_rfl) lo_i_IsScale fun ds out _ hr => by obtain ⟨points, ⟨⟩⟩ := ds; exact (ev_i_IsScale points).trans hr

def E_w_sameFloat : Tabs := (mkE tab [] [])
set_option maxRecDepth 4000 in
theorem ek_w_sameFloat : EnvOK Try.prog E_w_sameFloat := (mkE_ok tab_ok mixed AllF.nil AllX.nil)
theorem ev_w_sameFloat (a : Nat) (b : Nat) : evalF E_w_sameFloat noL Try.f46 [.ro false (.flt .f64), .ro false (.flt .f64)] (.one false .bool) (a, b, ()) = g_w_sameFloat a b := by kernel_rfl
def m_w_sameFloat : FM := { ps := [.ro false (.flt .f64), .ro false (.flt .f64)], res := .one false .bool, run := fun x => some (t_w_sameFloat x.1 x.2.1) }
set_option maxRecDepth 4000 in
theorem ok_w_sameFloat : FmOK Try.prog 46 m_w_sameFloat := @FmOK.made Try.prog E_w_sameFloat ek_w_sameFloat 46 Try.f46 noL m_w_sameFloat Try.func46 (by kernel_rfl) (Loops.none (by kernel_rfl)) fun ds out _ hr => by obtain ⟨a, b, ⟨⟩⟩ := ds; exact (ev_w_sameFloat a b).trans ((q_w_sameFloat a b).trans hr)

def E_w_eqFloat32S : Tabs := (mkE tab [(46, m_w_sameFloat)] [])
set_option maxRecDepth 4000 in
theorem ek_w_eqFloat32S : EnvOK Try.prog E_w_eqFloat32S := (mkE_ok tab_ok mixed (AllF.cons ok_w_sameFloat AllF.nil) AllX.nil)
def lm_L_w_eqFloat32S_1 : LM := { mat := [], head := { slots := [(0, .dat false (.slice (.flt .f32))), (1, .dat false (.slice (.flt .f32))), (4, .dat false .bool), (5, .dat false (.int .i64))], blks := [] }, out := { slots := [(4, .dat false .bool)], blks := [] }, ex := 0, rets := true, run := iter L_w_eqFloat32S_1 fuel }
def ll_w_eqFloat32S : List (Nat × LP) := [(4, .lm lm_L_w_eqFloat32S_1)]
theorem rd_L_w_eqFloat32S_1 (rec' : ((List Nat) × (List Nat) × Bool × Int × Unit) × (Unit) → Option (Bool × ((Bool × Unit) × (Unit)))) (a : (List Nat)) (b : (List Nat)) (t4 : Bool) (i : Int) : round E_w_eqFloat32S (lookL ll_w_eqFloat32S) lm_L_w_eqFloat32S_1 29 (loopAt Try.f18 0) rec' ((a, b, t4, i, ()), (())) = L_w_eqFloat32S_1 rec' ((a, b, t4, i, ()), (())) := by kernel_rfl
theorem lo_w_eqFloat32S : Loops E_w_eqFloat32S (lookL ll_w_eqFloat32S) Try.f18 := Loops.list (by kernel_rfl) (by kernel_rfl) ⟨LoopOK.iter (step := L_w_eqFloat32S_1) (N := fun _ => fuel) (fun rec' x => by obtain ⟨⟨a, b, t4, i, ⟨⟩⟩, ⟨⟨⟩⟩⟩ := x; exact rd_L_w_eqFloat32S_1 rec' a b t4 i) fun _ => rfl, trivial⟩
theorem ev_w_eqFloat32S (a : (List Nat)) (b : (List Nat)) : evalF E_w_eqFloat32S (lookL ll_w_eqFloat32S) Try.f18 [.ro false (.slice (.flt .f32)), .ro false (.slice (.flt .f32))] (.one false .bool) (a, b, ()) = g_w_eqFloat32S a b := by kernel_rfl
def m_w_eqFloat32S : FM := { ps := [.ro false (.slice (.flt .f32)), .ro false (.slice (.flt .f32))], res := .one false .bool, run := fun x => g_w_eqFloat32S x.1 x.2.1 }
set_option maxRecDepth 4000 in
theorem ok_w_eqFloat32S : FmOK Try.prog 18 m_w_eqFloat32S := @FmOK.made Try.prog E_w_eqFloat32S ek_w_eqFloat32S 18 Try.f18 (lookL ll_w_eqFloat32S) m_w_eqFloat32S Try.func18 (by kernel_rfl) lo_w_eqFloat32S fun ds out _ hr => by obtain ⟨a, b, ⟨⟩⟩ := ds; exact (ev_w_eqFloat32S a b).trans hr

def E_w_FnExactIsScale : Tabs := (mkE tab [(16, m_w_toFloat32S), (15, m_s_IsScale), (17, m_i_IsScale), (18, m_w_eqFloat32S)] [])
set_option maxRecDepth 4000 in
theorem ek_w_FnExactIsScale : EnvOK Try.prog E_w_FnExactIsScale := (mkE_ok tab_ok mixed (AllF.cons ok_w_toFloat32S (AllF.cons ok_s_IsScale (AllF.cons ok_i_IsScale (AllF.cons ok_w_eqFloat32S AllF.nil)))) AllX.nil)
theorem ev_w_FnExactIsScale (aPoints : (List Nat)) : evalF E_w_FnExactIsScale noL Try.f3 [.ro false (.slice (.flt .f32))] (.one false .bool) (aPoints, ()) = g_w_FnExactIsScale aPoints := by kernel_rfl
def m_w_FnExactIsScale : FM := { ps := [.ro false (.slice (.flt .f32))], res := .one false .bool, run := fun x => g_w_FnExactIsScale x.1 }
set_option maxRecDepth 4000 in
theorem ok_w_FnExactIsScale : FmOK Try.prog 3 m_w_FnExactIsScale := @FmOK.made Try.prog E_w_FnExactIsScale ek_w_FnExactIsScale 3 Try.f3 noL m_w_FnExactIsScale Try.func3 (by kernel_rfl) (Loops.none (by kernel_rfl)) fun ds out _ hr => by obtain ⟨aPoints, ⟨⟩⟩ := ds; exact (ev_w_FnExactIsScale aPoints).trans hr

def E_w_szVectorS : Tabs := (mkE tab [] [])
set_option maxRecDepth 4000 in
theorem ek_w_szVectorS : EnvOK Try.prog E_w_szVectorS := (mkE_ok tab_ok mixed AllF.nil AllX.nil)
theorem ev_w_szVectorS (a : (List dVec)) (left : Int) : evalF E_w_szVectorS noL Try.f19 [.ro false (.slice tVec), .ro false (.int .i64)] (.one false (.int .i64)) (a, left, ()) = g_w_szVectorS a left := by kernel_rfl
def m_w_szVectorS : FM := { ps := [.ro false (.slice tVec), .ro false (.int .i64)], res := .one false (.int .i64), run := fun x => some (t_w_szVectorS x.1 x.2.1) }
set_option maxRecDepth 4000 in
theorem ok_w_szVectorS : FmOK Try.prog 19 m_w_szVectorS := @FmOK.made Try.prog E_w_szVectorS ek_w_szVectorS 19 Try.f19 noL m_w_szVectorS Try.func19 (by kernel_rfl) (Loops.none (by kernel_rfl)) fun ds out _ hr => by obtain ⟨a, left, ⟨⟩⟩ := ds; exact (ev_w_szVectorS a left).trans ((q_w_szVectorS a left).trans hr)

def E_w_toVector : Tabs := (mkE tab [] [])
set_option maxRecDepth 4000 in
theorem ek_w_toVector : EnvOK Try.prog E_w_toVector := (mkE_ok tab_ok mixed AllF.nil AllX.nil)
theorem ev_w_toVector (a : dVec) : evalF E_w_toVector noL Try.f67 [.ro true tVec] (.one true tVec) (a, ()) = g_w_toVector a := by kernel_rfl
def m_w_toVector : FM := { ps := [.ro true tVec], res := .one true tVec, run := fun x => some (t_w_toVector x.1) }
set_option maxRecDepth 4000 in
theorem ok_w_toVector : FmOK Try.prog 67 m_w_toVector := @FmOK.made Try.prog E_w_toVector ek_w_toVector 67 Try.f67 noL m_w_toVector Try.func67 (by kernel_rfl) (Loops.none (by kernel_rfl)) fun ds out _ hr => by obtain ⟨a, ⟨⟩⟩ := ds; exact (ev_w_toVector a).trans ((q_w_toVector a).trans hr)

def E_w_toVectorS : Tabs := (mkE tab [(67, m_w_toVector)] [])
set_option maxRecDepth 4000 in
theorem ek_w_toVectorS : EnvOK Try.prog E_w_toVectorS := (mkE_ok tab_ok mixed (AllF.cons ok_w_toVector AllF.nil) AllX.nil)
def lm_L_w_toVectorS_1 : LM := { mat := [], head := { slots := [(0, .dat false (.slice tVec)), (3, .cst (.sl (.row 0))), (4, .dat false (.int .i64))], blks := [.row false tVec] }, out := { slots := [(3, .cst (.sl (.row 0)))], blks := [.row false tVec] }, ex := 0, rets := false, run := iter L_w_toVectorS_1 fuel }
def ll_w_toVectorS : List (Nat × LP) := [(3, .lm lm_L_w_toVectorS_1)]
theorem rd_L_w_toVectorS_1 (rec' : ((List dVec) × Int × Unit) × ((List dVec) × Unit) → Option ((Unit) × ((List dVec) × Unit))) (a : (List dVec)) (i : Int) (r0 : (List dVec)) : round E_w_toVectorS (lookL ll_w_toVectorS) lm_L_w_toVectorS_1 23 (loopAt Try.f21 0) rec' ((a, i, ()), (r0, ())) = L_w_toVectorS_1 rec' ((a, i, ()), (r0, ())) := by kernel_rfl
theorem lo_w_toVectorS : Loops E_w_toVectorS (lookL ll_w_toVectorS) Try.f21 := Loops.list (by kernel_rfl) (by kernel_rfl) ⟨LoopOK.iter (step := L_w_toVectorS_1) (N := fun _ => fuel) (fun rec' x => by obtain ⟨⟨a, i, ⟨⟩⟩, ⟨r0, ⟨⟩⟩⟩ := x; exact rd_L_w_toVectorS_1 rec' a i r0) fun _ => rfl, trivial⟩
theorem ev_w_toVectorS (a : (List dVec)) : evalF E_w_toVectorS (lookL ll_w_toVectorS) Try.f21 [.ro false (.slice tVec)] (.one false (.slice tVec)) (a, ()) = g_w_toVectorS a := by kernel_rfl
def m_w_toVectorS : FM := { ps := [.ro false (.slice tVec)], res := .one false (.slice tVec), run := fun x => g_w_toVectorS x.1 }
set_option maxRecDepth 4000 in
theorem ok_w_toVectorS : FmOK Try.prog 21 m_w_toVectorS := @FmOK.made Try.prog E_w_toVectorS ek_w_toVectorS 21 Try.f21 (lookL ll_w_toVectorS) m_w_toVectorS Try.func21 (by kernel_rfl) lo_w_toVectorS fun ds out _ hr => by obtain ⟨a, ⟨⟩⟩ := ds; exact (ev_w_toVectorS a).trans hr

def E_s_l01Add : Tabs := (mkE tab [] [])
set_option maxRecDepth 4000 in
theorem ek_s_l01Add : EnvOK Try.prog E_s_l01Add := (mkE_ok tab_ok mixed AllF.nil AllX.nil)
theorem ev_s_l01Add (a : dVec) (b : dVec) : evalF E_s_l01Add noL Try.f73 [.ro true tVec, .ro true tVec] (.one true tVec) (a, b, ()) = g_s_l01Add a b := by kernel_rfl
def m_s_l01Add : FM := { ps := [.ro true tVec, .ro true tVec], res := .one true tVec, run := fun x => some (t_s_l01Add x.1 x.2.1) }
set_option maxRecDepth 4000 in
theorem ok_s_l01Add : FmOK Try.prog 73 m_s_l01Add := @FmOK.made Try.prog E_s_l01Add ek_s_l01Add 73 Try.f73 noL m_s_l01Add Try.func73 (by kernel_rfl) (Loops.none (by kernel_rfl)) fun ds out _ hr => by obtain ⟨a, b, ⟨⟩⟩ := ds; exact (ev_s_l01Add a b).trans ((q_s_l01Add a b).trans hr)

def E_s_l01Scale : Tabs := (mkE tab [] [])
set_option maxRecDepth 4000 in
theorem ek_s_l01Scale : EnvOK Try.prog E_s_l01Scale := (mkE_ok tab_ok mixed AllF.nil AllX.nil)
theorem ev_s_l01Scale (v : dVec) (byx : Nat) : evalF E_s_l01Scale noL Try.f74 [.ro true tVec, .ro false (.flt .f32)] (.one true tVec) (v, byx, ()) = g_s_l01Scale v byx := by kernel_rfl
def m_s_l01Scale : FM := { ps := [.ro true tVec, .ro false (.flt .f32)], res := .one true tVec, run := fun x => some (t_s_l01Scale x.1 x.2.1) }
set_option maxRecDepth 4000 in
theorem ok_s_l01Scale : FmOK Try.prog 74 m_s_l01Scale := @FmOK.made Try.prog E_s_l01Scale ek_s_l01Scale 74 Try.f74 noL m_s_l01Scale Try.func74 (by kernel_rfl) (Loops.none (by kernel_rfl)) fun ds out _ hr => by obtain ⟨v, byx, ⟨⟩⟩ := ds; exact (ev_s_l01Scale v byx).trans ((q_s_l01Scale v byx).trans hr)

def E_s_MiddleOf : Tabs := (mkE tab [(73, m_s_l01Add), (74, m_s_l01Scale)] [])
set_option maxRecDepth 4000 in
theorem ek_s_MiddleOf : EnvOK Try.prog E_s_MiddleOf := (mkE_ok tab_ok mixed (AllF.cons ok_s_l01Add (AllF.cons ok_s_l01Scale AllF.nil)) AllX.nil)
def lm_L_s_MiddleOf_1 : LM := { mat := [], head := { slots := [(0, .dat false (.slice tVec)), (2, .cst (.ptr (.box 0 0))), (4, .cst (.ptr (.box 1 0))), (17, .dat false (.int .i64)), (18, .dat false (.int .i64))], blks := [.box [.dat tVec], .box [.dat tVec]] }, out := { slots := [(0, .dat false (.slice tVec)), (2, .cst (.ptr (.box 0 0))), (4, .cst (.ptr (.box 1 0)))], blks := [.box [.dat tVec], .box [.dat tVec]] }, ex := 0, rets := false, run := iter L_s_MiddleOf_1 fuel }
def ll_s_MiddleOf : List (Nat × LP) := [(5, .lm lm_L_s_MiddleOf_1)]
theorem rd_L_s_MiddleOf_1 (rec' : ((List dVec) × Int × Int × Unit) × ((dVec × Unit) × (dVec × Unit) × Unit) → Option (((List dVec) × Unit) × ((dVec × Unit) × (dVec × Unit) × Unit))) (places : (List dVec)) (t17 : Int) (t18 : Int) (b0 : dVec) (b1 : dVec) : round E_s_MiddleOf (lookL ll_s_MiddleOf) lm_L_s_MiddleOf_1 34 (loopAt Try.f20 0) rec' ((places, t17, t18, ()), ((b0, ()), (b1, ()), ())) = L_s_MiddleOf_1 rec' ((places, t17, t18, ()), ((b0, ()), (b1, ()), ())) := by kernel_rfl
theorem lo_s_MiddleOf : Loops E_s_MiddleOf (lookL ll_s_MiddleOf) Try.f20 := Loops.list (by kernel_rfl) (by kernel_rfl) ⟨LoopOK.iter (step := L_s_MiddleOf_1) (N := fun _ => fuel) (fun rec' x => by obtain ⟨⟨places, t17, t18, ⟨⟩⟩, ⟨⟨b0, ⟨⟩⟩, ⟨b1, ⟨⟩⟩, ⟨⟩⟩⟩ := x; exact rd_L_s_MiddleOf_1 rec' places t17 t18 b0 b1) fun _ => rfl, trivial⟩
theorem ev_s_MiddleOf (places : (List dVec)) : evalF E_s_MiddleOf (lookL ll_s_MiddleOf) Try.f20 [.ro false (.slice tVec)] (.tup [(true, tVec), (false, .bool)]) (places, ()) = g_s_MiddleOf places := by kernel_rfl
def m_s_MiddleOf : FM := { ps := [.ro false (.slice tVec)], res := .tup [(true, tVec), (false, .bool)], run := fun x => g_s_MiddleOf x.1 }
set_option maxRecDepth 4000 in
theorem ok_s_MiddleOf : FmOK Try.prog 20 m_s_MiddleOf := @FmOK.made Try.prog E_s_MiddleOf ek_s_MiddleOf 20 Try.f20 (lookL ll_s_MiddleOf) m_s_MiddleOf Try.func20 (by kernel_rfl) lo_s_MiddleOf fun ds out _ hr => by obtain ⟨places, ⟨⟩⟩ := ds; exact (ev_s_MiddleOf places).trans hr

def E_i_AddVectors : Tabs := (mkE tab [] [])
set_option maxRecDepth 4000 in
theorem ek_i_AddVectors : EnvOK Try.prog E_i_AddVectors := (mkE_ok tab_ok mixed AllF.nil AllX.nil)
theorem ev_i_AddVectors (a : dVec) (b : dVec) : evalF E_i_AddVectors noL Try.f75 [.ro true tVec, .ro true tVec] (.one true tVec) (a, b, ()) = g_i_AddVectors a b := by kernel_rfl
def m_i_AddVectors : FM := { ps := [.ro true tVec, .ro true tVec], res := .one true tVec, run := fun x => some (t_i_AddVectors x.1 x.2.1) }
set_option maxRecDepth 4000 in
theorem ok_i_AddVectors : FmOK Try.prog 75 m_i_AddVectors := @FmOK.made Try.prog E_i_AddVectors ek_i_AddVectors 75 Try.f75 noL m_i_AddVectors Try.func75 (by kernel_rfl) (Loops.none (by kernel_rfl)) fun ds out _ hr => by obtain ⟨a, b, ⟨⟩⟩ := ds; exact (ev_i_AddVectors a b).trans ((q_i_AddVectors a b).trans hr)

def E_i_ScaleVector : Tabs := (mkE tab [] [])
set_option maxRecDepth 4000 in
theorem ek_i_ScaleVector : EnvOK Try.prog E_i_ScaleVector := (mkE_ok tab_ok mixed AllF.nil AllX.nil)
theorem ev_i_ScaleVector (v : dVec) (byx : Nat) : evalF E_i_ScaleVector noL Try.f76 [.ro true tVec, .ro false (.flt .f32)] (.one true tVec) (v, byx, ()) = g_i_ScaleVector v byx := by kernel_rfl
def m_i_ScaleVector : FM := { ps := [.ro true tVec, .ro false (.flt .f32)], res := .one true tVec, run := fun x => some (t_i_ScaleVector x.1 x.2.1) }
set_option maxRecDepth 4000 in
theorem ok_i_ScaleVector : FmOK Try.prog 76 m_i_ScaleVector := @FmOK.made Try.prog E_i_ScaleVector ek_i_ScaleVector 76 Try.f76 noL m_i_ScaleVector Try.func76 (by kernel_rfl) (Loops.none (by kernel_rfl)) fun ds out _ hr => by obtain ⟨v, byx, ⟨⟩⟩ := ds; exact (ev_i_ScaleVector v byx).trans ((q_i_ScaleVector v byx).trans hr)

def E_i_MiddleOf : Tabs := (mkE tab [(75, m_i_AddVectors), (76, m_i_ScaleVector)] [])
set_option maxRecDepth 4000 in
theorem ek_i_MiddleOf : EnvOK Try.prog E_i_MiddleOf := (mkE_ok tab_ok mixed (AllF.cons ok_i_AddVectors (AllF.cons ok_i_ScaleVector AllF.nil)) AllX.nil)
def lm_L_i_MiddleOf_1 : LM := { mat := [], head := { slots := [(0, .dat false (.slice tVec)), (2, .cst (.ptr (.box 0 0))), (4, .cst (.ptr (.box 1 0))), (16, .dat false (.slice tVec)), (17, .dat false (.int .i64)), (18, .dat false (.int .i64))], blks := [.box [.dat tVec], .box [.dat tVec]] }, out := { slots := [(0, .dat false (.slice tVec)), (2, .cst (.ptr (.box 0 0))), (4, .cst (.ptr (.box 1 0)))], blks := [.box [.dat tVec], .box [.dat tVec]] }, ex := 0, rets := false, run := iter L_i_MiddleOf_1 fuel }
def ll_i_MiddleOf : List (Nat × LP) := [(5, .lm lm_L_i_MiddleOf_1)]
theorem rd_L_i_MiddleOf_1 (rec' : ((List dVec) × (List dVec) × Int × Int × Unit) × ((dVec × Unit) × (dVec × Unit) × Unit) → Option (((List dVec) × Unit) × ((dVec × Unit) × (dVec × Unit) × Unit))) (places : (List dVec)) (t16 : (List dVec)) (t17 : Int) (t18 : Int) (b0 : dVec) (b1 : dVec) : round E_i_MiddleOf (lookL ll_i_MiddleOf) lm_L_i_MiddleOf_1 32 (loopAt Try.f22 0) rec' ((places, t16, t17, t18, ()), ((b0, ()), (b1, ()), ())) = L_i_MiddleOf_1 rec' ((places, t16, t17, t18, ()), ((b0, ()), (b1, ()), ())) := by kernel_rfl
theorem lo_i_MiddleOf : Loops E_i_MiddleOf (lookL ll_i_MiddleOf) Try.f22 := Loops.list (by kernel_rfl) (by kernel_rfl) ⟨LoopOK.iter (step := L_i_MiddleOf_1) (N := fun _ => fuel) (fun rec' x => by obtain ⟨⟨places, t16, t17, t18, ⟨⟩⟩, ⟨⟨b0, ⟨⟩⟩, ⟨b1, ⟨⟩⟩, ⟨⟩⟩⟩ := x; exact rd_L_i_MiddleOf_1 rec' places t16 t17 t18 b0 b1) fun _ => rfl, trivial⟩
theorem ev_i_MiddleOf (places : (List dVec)) : evalF E_i_MiddleOf (lookL ll_i_MiddleOf) Try.f22 [.ro false (.slice tVec)] (.tup [(true, tVec), (false, .bool)]) (places, ()) = g_i_MiddleOf places := by kernel_rfl
def m_i_MiddleOf : FM := { ps := [.ro false (.slice tVec)], res := .tup [(true, tVec), (false, .bool)], run := fun x => g_i_MiddleOf x.1 }
set_option maxRecDepth 4000 in
theorem ok_i_MiddleOf : FmOK Try.prog 22 m_i_MiddleOf := @FmOK.made Try.prog E_i_MiddleOf ek_i_MiddleOf 22 Try.f22 (lookL ll_i_MiddleOf) m_i_MiddleOf Try.func22 (by kernel_rfl) lo_i_MiddleOf fun ds out _ hr => by obtain ⟨places, ⟨⟩⟩ := ds; exact (ev_i_MiddleOf places).trans hr

def E_w_eqVector : Tabs := (mkE tab [(46, m_w_sameFloat)] [])
set_option maxRecDepth 4000 in
theorem ek_w_eqVector : EnvOK Try.prog E_w_eqVector := (mkE_ok tab_ok mixed (AllF.cons ok_w_sameFloat AllF.nil) AllX.nil)
theorem ev_w_eqVector (a : dVec) (b : dVec) : evalF E_w_eqVector noL Try.f23 [.ro true tVec, .ro true tVec] (.one false .bool) (a, b, ()) = g_w_eqVector a b := by kernel_rfl
def m_w_eqVector : FM := { ps := [.ro true tVec, .ro true tVec], res := .one false .bool, run := fun x => some (t_w_eqVector x.1 x.2.1) }
set_option maxRecDepth 4000 in
theorem ok_w_eqVector : FmOK Try.prog 23 m_w_eqVector := @FmOK.made Try.prog E_w_eqVector ek_w_eqVector 23 Try.f23 noL m_w_eqVector Try.func23 (by kernel_rfl) (Loops.none (by kernel_rfl)) fun ds out _ hr => by obtain ⟨a, b, ⟨⟩⟩ := ds; exact (ev_w_eqVector a b).trans ((q_w_eqVector a b).trans hr)

def E_w_eqVectorS : Tabs := (mkE tab [(23, m_w_eqVector)] [])
set_option maxRecDepth 4000 in
theorem ek_w_eqVectorS : EnvOK Try.prog E_w_eqVectorS := (mkE_ok tab_ok mixed (AllF.cons ok_w_eqVector AllF.nil) AllX.nil)
def lm_L_w_eqVectorS_1 : LM := { mat := [], head := { slots := [(0, .dat false (.slice tVec)), (1, .dat false (.slice tVec)), (4, .dat false .bool), (5, .dat false (.int .i64))], blks := [] }, out := { slots := [(4, .dat false .bool)], blks := [] }, ex := 0, rets := true, run := iter L_w_eqVectorS_1 fuel }
def ll_w_eqVectorS : List (Nat × LP) := [(4, .lm lm_L_w_eqVectorS_1)]
theorem rd_L_w_eqVectorS_1 (rec' : ((List dVec) × (List dVec) × Bool × Int × Unit) × (Unit) → Option (Bool × ((Bool × Unit) × (Unit)))) (a : (List dVec)) (b : (List dVec)) (t4 : Bool) (i : Int) : round E_w_eqVectorS (lookL ll_w_eqVectorS) lm_L_w_eqVectorS_1 27 (loopAt Try.f24 0) rec' ((a, b, t4, i, ()), (())) = L_w_eqVectorS_1 rec' ((a, b, t4, i, ()), (())) := by kernel_rfl
theorem lo_w_eqVectorS : Loops E_w_eqVectorS (lookL ll_w_eqVectorS) Try.f24 := Loops.list (by kernel_rfl) (by kernel_rfl) ⟨LoopOK.iter (step := L_w_eqVectorS_1) (N := fun _ => fuel) (fun rec' x => by obtain ⟨⟨a, b, t4, i, ⟨⟩⟩, ⟨⟨⟩⟩⟩ := x; exact rd_L_w_eqVectorS_1 rec' a b t4 i) fun _ => rfl, trivial⟩
theorem ev_w_eqVectorS (a : (List dVec)) (b : (List dVec)) : evalF E_w_eqVectorS (lookL ll_w_eqVectorS) Try.f24 [.ro false (.slice tVec), .ro false (.slice tVec)] (.one false .bool) (a, b, ()) = g_w_eqVectorS a b := by kernel_rfl
def m_w_eqVectorS : FM := { ps := [.ro false (.slice tVec), .ro false (.slice tVec)], res := .one false .bool, run := fun x => g_w_eqVectorS x.1 x.2.1 }
set_option maxRecDepth 4000 in
theorem ok_w_eqVectorS : FmOK Try.prog 24 m_w_eqVectorS := @FmOK.made Try.prog E_w_eqVectorS ek_w_eqVectorS 24 Try.f24 (lookL ll_w_eqVectorS) m_w_eqVectorS Try.func24 (by kernel_rfl) lo_w_eqVectorS fun ds out _ hr => by obtain ⟨a, b, ⟨⟩⟩ := ds; exact (ev_w_eqVectorS a b).trans hr

def E_w_FnExactMiddleOf : Tabs := (mkE tab [(19, m_w_szVectorS), (21, m_w_toVectorS), (20, m_s_MiddleOf), (22, m_i_MiddleOf), (23, m_w_eqVector), (24, m_w_eqVectorS)] [])
set_option maxRecDepth 4000 in
theorem ek_w_FnExactMiddleOf : EnvOK Try.prog E_w_FnExactMiddleOf := (mkE_ok tab_ok mixed (AllF.cons ok_w_szVectorS (AllF.cons ok_w_toVectorS (AllF.cons ok_s_MiddleOf (AllF.cons ok_i_MiddleOf (AllF.cons ok_w_eqVector (AllF.cons ok_w_eqVectorS AllF.nil)))))) AllX.nil)
theorem ev_w_FnExactMiddleOf (aPlaces : (List dVec)) : evalF E_w_FnExactMiddleOf noL Try.f4 [.ro false (.slice tVec)] (.one false .bool) (aPlaces, ()) = g_w_FnExactMiddleOf aPlaces := by kernel_rfl
def m_w_FnExactMiddleOf : FM := { ps := [.ro false (.slice tVec)], res := .one false .bool, run := fun x => g_w_FnExactMiddleOf x.1 }
set_option maxRecDepth 4000 in
theorem ok_w_FnExactMiddleOf : FmOK Try.prog 4 m_w_FnExactMiddleOf := @FmOK.made Try.prog E_w_FnExactMiddleOf ek_w_FnExactMiddleOf 4 Try.f4 noL m_w_FnExactMiddleOf Try.func4 (by kernel_rfl) (Loops.none (by kernel_rfl)) fun ds out _ hr => by obtain ⟨aPlaces, ⟨⟩⟩ := ds; exact (ev_w_FnExactMiddleOf aPlaces).trans hr

def E_s_l00In : Tabs := (mkE tab [] [])
set_option maxRecDepth 4000 in
theorem ek_s_l00In : EnvOK Try.prog E_s_l00In := (mkE_ok tab_ok mixed AllF.nil AllX.nil)
theorem ev_s_l00In (n : Int) (low : Int) (high : Int) : evalF E_s_l00In noL Try.f77 [.ro false (.int .i64), .ro false (.int .i64), .ro false (.int .i64)] (.one false .bool) (n, low, high, ()) = g_s_l00In n low high := by kernel_rfl
def m_s_l00In : FM := { ps := [.ro false (.int .i64), .ro false (.int .i64), .ro false (.int .i64)], res := .one false .bool, run := fun x => some (t_s_l00In x.1 x.2.1 x.2.2.1) }
set_option maxRecDepth 4000 in
theorem ok_s_l00In : FmOK Try.prog 77 m_s_l00In := @FmOK.made Try.prog E_s_l00In ek_s_l00In 77 Try.f77 noL m_s_l00In Try.func77 (by kernel_rfl) (Loops.none (by kernel_rfl)) fun ds out _ hr => by obtain ⟨n, low, high, ⟨⟩⟩ := ds; exact (ev_s_l00In n low high).trans ((q_s_l00In n low high).trans hr)

def E_s_l10Parts : Tabs := (mkE tab [] [])
set_option maxRecDepth 4000 in
theorem ek_s_l10Parts : EnvOK Try.prog E_s_l10Parts := (mkE_ok tab_ok mixed AllF.nil AllX.nil)
def lm_L_s_l10Parts_1 : LM := { mat := [], head := { slots := [(0, .dat false (.int .i64)), (1, .dat false (.int .i64)), (5, .cst (.sl (.row 0))), (6, .dat false (.int .i64)), (7, .dat false (.int .i64))], blks := [.row false (.slice (.int .i64))] }, out := { slots := [(5, .cst (.sl (.row 0)))], blks := [.row false (.slice (.int .i64))] }, ex := 0, rets := false, run := iter L_s_l10Parts_1 fuel }
def ll_s_l10Parts : List (Nat × LP) := [(4, .lm lm_L_s_l10Parts_1)]
theorem rd_L_s_l10Parts_1 (rec' : (Int × Int × Int × Int × Unit) × ((List (List Int)) × Unit) → Option ((Unit) × ((List (List Int)) × Unit))) (count : Int) (workers : Int) (fromx : Int) (k : Int) (r0 : (List (List Int))) : round E_s_l10Parts (lookL ll_s_l10Parts) lm_L_s_l10Parts_1 35 (loopAt Try.f78 0) rec' ((count, workers, fromx, k, ()), (r0, ())) = L_s_l10Parts_1 rec' ((count, workers, fromx, k, ()), (r0, ())) := by kernel_rfl
theorem lo_s_l10Parts : Loops E_s_l10Parts (lookL ll_s_l10Parts) Try.f78 := Loops.list (by kernel_rfl) (by kernel_rfl) ⟨LoopOK.iter (step := L_s_l10Parts_1) (N := fun _ => fuel) (fun rec' x => by obtain ⟨⟨count, workers, fromx, k, ⟨⟩⟩, ⟨r0, ⟨⟩⟩⟩ := x; exact rd_L_s_l10Parts_1 rec' count workers fromx k r0) fun _ => rfl, trivial⟩
theorem ev_s_l10Parts (count : Int) (workers : Int) : evalF E_s_l10Parts (lookL ll_s_l10Parts) Try.f78 [.ro false (.int .i64), .ro false (.int .i64)] (.one false (.slice (.slice (.int .i64)))) (count, workers, ()) = g_s_l10Parts count workers := by kernel_rfl
def m_s_l10Parts : FM := { ps := [.ro false (.int .i64), .ro false (.int .i64)], res := .one false (.slice (.slice (.int .i64))), run := fun x => g_s_l10Parts x.1 x.2.1 }
set_option maxRecDepth 4000 in
theorem ok_s_l10Parts : FmOK Try.prog 78 m_s_l10Parts := @FmOK.made Try.prog E_s_l10Parts ek_s_l10Parts 78 Try.f78 (lookL ll_s_l10Parts) m_s_l10Parts Try.func78 (by kernel_rfl) lo_s_l10Parts fun ds out _ hr => by obtain ⟨count, workers, ⟨⟩⟩ := ds; exact (ev_s_l10Parts count workers).trans hr

def E_s_PartsOfFrames : Tabs := (mkE tab [(77, m_s_l00In), (78, m_s_l10Parts)] [])
set_option maxRecDepth 4000 in
theorem ek_s_PartsOfFrames : EnvOK Try.prog E_s_PartsOfFrames := (mkE_ok tab_ok mixed (AllF.cons ok_s_l00In (AllF.cons ok_s_l10Parts AllF.nil)) AllX.nil)
theorem ev_s_PartsOfFrames (count : Int) (workers : Int) : evalF E_s_PartsOfFrames noL Try.f25 [.ro false (.int .i64), .ro false (.int .i64)] (.tup [(false, (.slice (.slice (.int .i64)))), (false, .bool)]) (count, workers, ()) = g_s_PartsOfFrames count workers := by kernel_rfl
def m_s_PartsOfFrames : FM := { ps := [.ro false (.int .i64), .ro false (.int .i64)], res := .tup [(false, (.slice (.slice (.int .i64)))), (false, .bool)], run := fun x => g_s_PartsOfFrames x.1 x.2.1 }
set_option maxRecDepth 4000 in
theorem ok_s_PartsOfFrames : FmOK Try.prog 25 m_s_PartsOfFrames := @FmOK.made Try.prog E_s_PartsOfFrames ek_s_PartsOfFrames 25 Try.f25 noL m_s_PartsOfFrames Try.func25 (by kernel_rfl) (Loops.none (by kernel_rfl)) fun ds out _ hr => by obtain ⟨count, workers, ⟨⟩⟩ := ds; exact (ev_s_PartsOfFrames count workers).trans hr

def E_i_areWorkers : Tabs := (mkE tab [] [])
set_option maxRecDepth 4000 in
theorem ek_i_areWorkers : EnvOK Try.prog E_i_areWorkers := (mkE_ok tab_ok mixed AllF.nil AllX.nil)
theorem ev_i_areWorkers (workers : Int) : evalF E_i_areWorkers noL Try.f79 [.ro false (.int .i64)] (.one false .bool) (workers, ()) = g_i_areWorkers workers := by kernel_rfl
def m_i_areWorkers : FM := { ps := [.ro false (.int .i64)], res := .one false .bool, run := fun x => some (t_i_areWorkers x.1) }
set_option maxRecDepth 4000 in
theorem ok_i_areWorkers : FmOK Try.prog 79 m_i_areWorkers := @FmOK.made Try.prog E_i_areWorkers ek_i_areWorkers 79 Try.f79 noL m_i_areWorkers Try.func79 (by kernel_rfl) (Loops.none (by kernel_rfl)) fun ds out _ hr => by obtain ⟨workers, ⟨⟩⟩ := ds; exact (ev_i_areWorkers workers).trans ((q_i_areWorkers workers).trans hr)

def E_i_PartsOfFrames : Tabs := (mkE tab [(79, m_i_areWorkers)] [])
set_option maxRecDepth 4000 in
theorem ek_i_PartsOfFrames : EnvOK Try.prog E_i_PartsOfFrames := (mkE_ok tab_ok mixed (AllF.cons ok_i_areWorkers AllF.nil) AllX.nil)
def lm_L_i_PartsOfFrames_1 : LM := { mat := [.slot 6 (.slice (.int .i64))], head := { slots := [(0, .dat false (.int .i64)), (1, .dat false (.int .i64)), (6, .cst (.sl (.row 0))), (7, .dat false (.int .i64)), (21, .dat false (.int .i64)), (22, .dat false (.int .i64))], blks := [.row false (.slice (.int .i64))] }, out := { slots := [(6, .cst (.sl (.row 0)))], blks := [.row false (.slice (.int .i64))] }, ex := 0, rets := false, run := iter L_i_PartsOfFrames_1 fuel }
def ll_i_PartsOfFrames : List (Nat × LP) := [(6, .lm lm_L_i_PartsOfFrames_1)]
theorem rd_L_i_PartsOfFrames_1 (rec' : (Int × Int × Int × Int × Int × Unit) × ((List (List Int)) × Unit) → Option ((Unit) × ((List (List Int)) × Unit))) (count : Int) (workers : Int) (first : Int) (t21 : Int) (t22 : Int) (r0 : (List (List Int))) : round E_i_PartsOfFrames (lookL ll_i_PartsOfFrames) lm_L_i_PartsOfFrames_1 46 (loopAt Try.f26 0) rec' ((count, workers, first, t21, t22, ()), (r0, ())) = L_i_PartsOfFrames_1 rec' ((count, workers, first, t21, t22, ()), (r0, ())) := by kernel_rfl
theorem lo_i_PartsOfFrames : Loops E_i_PartsOfFrames (lookL ll_i_PartsOfFrames) Try.f26 := Loops.list (by kernel_rfl) (by kernel_rfl) ⟨LoopOK.iter (step := L_i_PartsOfFrames_1) (N := fun _ => fuel) (fun rec' x => by obtain ⟨⟨count, workers, first, t21, t22, ⟨⟩⟩, ⟨r0, ⟨⟩⟩⟩ := x; exact rd_L_i_PartsOfFrames_1 rec' count workers first t21 t22 r0) fun _ => rfl, trivial⟩
theorem ev_i_PartsOfFrames (count : Int) (workers : Int) : evalF E_i_PartsOfFrames (lookL ll_i_PartsOfFrames) Try.f26 [.ro false (.int .i64), .ro false (.int .i64)] (.tup [(false, (.slice (.slice (.int .i64)))), (false, .bool)]) (count, workers, ()) = g_i_PartsOfFrames count workers := by kernel_rfl
def m_i_PartsOfFrames : FM := { ps := [.ro false (.int .i64), .ro false (.int .i64)], res := .tup [(false, (.slice (.slice (.int .i64)))), (false, .bool)], run := fun x => g_i_PartsOfFrames x.1 x.2.1 }
set_option maxRecDepth 4000 in
theorem ok_i_PartsOfFrames : FmOK Try.prog 26 m_i_PartsOfFrames := @FmOK.made Try.prog E_i_PartsOfFrames ek_i_PartsOfFrames 26 Try.f26 (lookL ll_i_PartsOfFrames) m_i_PartsOfFrames Try.func26 (by kernel_rfl) lo_i_PartsOfFrames fun ds out _ hr => by obtain ⟨count, workers, ⟨⟩⟩ := ds; exact (ev_i_PartsOfFrames count workers).trans hr

def E_w_eqInt64S : Tabs := (mkE tab [] [])
set_option maxRecDepth 4000 in
theorem ek_w_eqInt64S : EnvOK Try.prog E_w_eqInt64S := (mkE_ok tab_ok mixed AllF.nil AllX.nil)
def lm_L_w_eqInt64S_1 : LM := { mat := [], head := { slots := [(0, .dat false (.slice (.int .i64))), (1, .dat false (.slice (.int .i64))), (4, .dat false .bool), (5, .dat false (.int .i64))], blks := [] }, out := { slots := [(4, .dat false .bool)], blks := [] }, ex := 0, rets := true, run := iter L_w_eqInt64S_1 fuel }
def ll_w_eqInt64S : List (Nat × LP) := [(4, .lm lm_L_w_eqInt64S_1)]
theorem rd_L_w_eqInt64S_1 (rec' : ((List Int) × (List Int) × Bool × Int × Unit) × (Unit) → Option (Bool × ((Bool × Unit) × (Unit)))) (a : (List Int)) (b : (List Int)) (t4 : Bool) (i : Int) : round E_w_eqInt64S (lookL ll_w_eqInt64S) lm_L_w_eqInt64S_1 26 (loopAt Try.f58 0) rec' ((a, b, t4, i, ()), (())) = L_w_eqInt64S_1 rec' ((a, b, t4, i, ()), (())) := by kernel_rfl
theorem lo_w_eqInt64S : Loops E_w_eqInt64S (lookL ll_w_eqInt64S) Try.f58 := Loops.list (by kernel_rfl) (by kernel_rfl) ⟨LoopOK.iter (step := L_w_eqInt64S_1) (N := fun _ => fuel) (fun rec' x => by obtain ⟨⟨a, b, t4, i, ⟨⟩⟩, ⟨⟨⟩⟩⟩ := x; exact rd_L_w_eqInt64S_1 rec' a b t4 i) fun _ => rfl, trivial⟩
theorem ev_w_eqInt64S (a : (List Int)) (b : (List Int)) : evalF E_w_eqInt64S (lookL ll_w_eqInt64S) Try.f58 [.ro false (.slice (.int .i64)), .ro false (.slice (.int .i64))] (.one false .bool) (a, b, ()) = g_w_eqInt64S a b := by kernel_rfl
def m_w_eqInt64S : FM := { ps := [.ro false (.slice (.int .i64)), .ro false (.slice (.int .i64))], res := .one false .bool, run := fun x => g_w_eqInt64S x.1 x.2.1 }
set_option maxRecDepth 4000 in
theorem ok_w_eqInt64S : FmOK Try.prog 58 m_w_eqInt64S := @FmOK.made Try.prog E_w_eqInt64S ek_w_eqInt64S 58 Try.f58 (lookL ll_w_eqInt64S) m_w_eqInt64S Try.func58 (by kernel_rfl) lo_w_eqInt64S fun ds out _ hr => by obtain ⟨a, b, ⟨⟩⟩ := ds; exact (ev_w_eqInt64S a b).trans hr

def E_w_eqInt64SS : Tabs := (mkE tab [(58, m_w_eqInt64S)] [])
set_option maxRecDepth 4000 in
theorem ek_w_eqInt64SS : EnvOK Try.prog E_w_eqInt64SS := (mkE_ok tab_ok mixed (AllF.cons ok_w_eqInt64S AllF.nil) AllX.nil)
def lm_L_w_eqInt64SS_1 : LM := { mat := [], head := { slots := [(0, .dat false (.slice (.slice (.int .i64)))), (1, .dat false (.slice (.slice (.int .i64)))), (4, .dat false .bool), (5, .dat false (.int .i64))], blks := [] }, out := { slots := [(4, .dat false .bool)], blks := [] }, ex := 0, rets := true, run := iter L_w_eqInt64SS_1 fuel }
def ll_w_eqInt64SS : List (Nat × LP) := [(4, .lm lm_L_w_eqInt64SS_1)]
theorem rd_L_w_eqInt64SS_1 (rec' : ((List (List Int)) × (List (List Int)) × Bool × Int × Unit) × (Unit) → Option (Bool × ((Bool × Unit) × (Unit)))) (a : (List (List Int))) (b : (List (List Int))) (t4 : Bool) (i : Int) : round E_w_eqInt64SS (lookL ll_w_eqInt64SS) lm_L_w_eqInt64SS_1 27 (loopAt Try.f27 0) rec' ((a, b, t4, i, ()), (())) = L_w_eqInt64SS_1 rec' ((a, b, t4, i, ()), (())) := by kernel_rfl
theorem lo_w_eqInt64SS : Loops E_w_eqInt64SS (lookL ll_w_eqInt64SS) Try.f27 := Loops.list (by kernel_rfl) (by kernel_rfl) ⟨LoopOK.iter (step := L_w_eqInt64SS_1) (N := fun _ => fuel) (fun rec' x => by obtain ⟨⟨a, b, t4, i, ⟨⟩⟩, ⟨⟨⟩⟩⟩ := x; exact rd_L_w_eqInt64SS_1 rec' a b t4 i) fun _ => rfl, trivial⟩
theorem ev_w_eqInt64SS (a : (List (List Int))) (b : (List (List Int))) : evalF E_w_eqInt64SS (lookL ll_w_eqInt64SS) Try.f27 [.ro false (.slice (.slice (.int .i64))), .ro false (.slice (.slice (.int .i64)))] (.one false .bool) (a, b, ()) = g_w_eqInt64SS a b := by kernel_rfl
def m_w_eqInt64SS : FM := { ps := [.ro false (.slice (.slice (.int .i64))), .ro false (.slice (.slice (.int .i64)))], res := .one false .bool, run := fun x => g_w_eqInt64SS x.1 x.2.1 }
set_option maxRecDepth 4000 in
theorem ok_w_eqInt64SS : FmOK Try.prog 27 m_w_eqInt64SS := @FmOK.made Try.prog E_w_eqInt64SS ek_w_eqInt64SS 27 Try.f27 (lookL ll_w_eqInt64SS) m_w_eqInt64SS Try.func27 (by kernel_rfl) lo_w_eqInt64SS fun ds out _ hr => by obtain ⟨a, b, ⟨⟩⟩ := ds; exact (ev_w_eqInt64SS a b).trans hr

def E_w_markInt64S : Tabs := (mkE tab [] [])
set_option maxRecDepth 4000 in
theorem ek_w_markInt64S : EnvOK Try.prog E_w_markInt64S := (mkE_ok tab_ok mixed AllF.nil AllX.nil)
def lm_L_w_markInt64S_1 : LM := { mat := [], head := { slots := [(0, .cst (.sl (.row 0))), (1, .dat false (.int .i64)), (5, .dat false (.int .i64))], blks := [.row true (.int .i64)] }, out := { slots := [(1, .dat false (.int .i64))], blks := [.row true (.int .i64)] }, ex := 0, rets := false, run := iter L_w_markInt64S_1 fuel }
def ll_w_markInt64S : List (Nat × LP) := [(2, .lm lm_L_w_markInt64S_1)]
theorem rd_L_w_markInt64S_1 (rec' : (Int × Int × Unit) × ((List Int) × Unit) → Option ((Int × Unit) × ((List Int) × Unit))) (k : Int) (i : Int) (r0 : (List Int)) : round E_w_markInt64S (lookL ll_w_markInt64S) lm_L_w_markInt64S_1 19 (loopAt Try.f59 0) rec' ((k, i, ()), (r0, ())) = L_w_markInt64S_1 rec' ((k, i, ()), (r0, ())) := by kernel_rfl
theorem lo_w_markInt64S : Loops E_w_markInt64S (lookL ll_w_markInt64S) Try.f59 := Loops.list (by kernel_rfl) (by kernel_rfl) ⟨LoopOK.iter (step := L_w_markInt64S_1) (N := fun _ => fuel) (fun rec' x => by obtain ⟨⟨k, i, ⟨⟩⟩, ⟨r0, ⟨⟩⟩⟩ := x; exact rd_L_w_markInt64S_1 rec' k i r0) fun _ => rfl, trivial⟩
theorem ev_w_markInt64S (a : (List Int)) (k : Int) : evalX E_w_markInt64S (lookL ll_w_markInt64S) Try.f59 [.own false (.slice (.int .i64)), .ro false (.int .i64)] (.one false (.int .i64)) (a, k, ()) = g_w_markInt64S a k := by kernel_rfl
def m_w_markInt64S : FX := { ps := [.own false (.slice (.int .i64)), .ro false (.int .i64)], res := .one false (.int .i64), run := fun x => g_w_markInt64S x.1 x.2.1 }
set_option maxRecDepth 4000 in
theorem ok_w_markInt64S : FxOK Try.prog 59 m_w_markInt64S := @FxOK.made Try.prog E_w_markInt64S ek_w_markInt64S 59 Try.f59 (lookL ll_w_markInt64S) m_w_markInt64S Try.func59 (by kernel_rfl) lo_w_markInt64S fun ds out _ hr => by obtain ⟨a, k, ⟨⟩⟩ := ds; exact (ev_w_markInt64S a k).trans hr

def E_w_markInt64SS : Tabs := (mkE tab [] [(59, m_w_markInt64S)])
set_option maxRecDepth 4000 in
theorem ek_w_markInt64SS : EnvOK Try.prog E_w_markInt64SS := (mkE_ok tab_ok mixed AllF.nil (AllX.cons ok_w_markInt64S AllX.nil))
def lm_L_w_markInt64SS_1 : LM := { mat := [], head := { slots := [(0, .cst (.sl (.row 0))), (1, .dat false (.int .i64)), (5, .dat false (.int .i64))], blks := [.row true (.slice (.int .i64))] }, out := { slots := [(1, .dat false (.int .i64))], blks := [.row true (.slice (.int .i64))] }, ex := 0, rets := false, run := iter L_w_markInt64SS_1 fuel }
def ll_w_markInt64SS : List (Nat × LP) := [(2, .lm lm_L_w_markInt64SS_1)]
theorem rd_L_w_markInt64SS_1 (rec' : (Int × Int × Unit) × ((List (List Int)) × Unit) → Option ((Int × Unit) × ((List (List Int)) × Unit))) (k : Int) (i : Int) (r0 : (List (List Int))) : round E_w_markInt64SS (lookL ll_w_markInt64SS) lm_L_w_markInt64SS_1 19 (loopAt Try.f28 0) rec' ((k, i, ()), (r0, ())) = L_w_markInt64SS_1 rec' ((k, i, ()), (r0, ())) := by kernel_rfl
theorem lo_w_markInt64SS : Loops E_w_markInt64SS (lookL ll_w_markInt64SS) Try.f28 := Loops.list (by kernel_rfl) (by kernel_rfl) ⟨LoopOK.iter (step := L_w_markInt64SS_1) (N := fun _ => fuel) (fun rec' x => by obtain ⟨⟨k, i, ⟨⟩⟩, ⟨r0, ⟨⟩⟩⟩ := x; exact rd_L_w_markInt64SS_1 rec' k i r0) fun _ => rfl, trivial⟩
theorem ev_w_markInt64SS (a : (List (List Int))) (k : Int) : evalX E_w_markInt64SS (lookL ll_w_markInt64SS) Try.f28 [.own false (.slice (.slice (.int .i64))), .ro false (.int .i64)] (.one false (.int .i64)) (a, k, ()) = g_w_markInt64SS a k := by kernel_rfl
def m_w_markInt64SS : FX := { ps := [.own false (.slice (.slice (.int .i64))), .ro false (.int .i64)], res := .one false (.int .i64), run := fun x => g_w_markInt64SS x.1 x.2.1 }
set_option maxRecDepth 4000 in
theorem ok_w_markInt64SS : FxOK Try.prog 28 m_w_markInt64SS := @FxOK.made Try.prog E_w_markInt64SS ek_w_markInt64SS 28 Try.f28 (lookL ll_w_markInt64SS) m_w_markInt64SS Try.func28 (by kernel_rfl) lo_w_markInt64SS fun ds out _ hr => by obtain ⟨a, k, ⟨⟩⟩ := ds; exact (ev_w_markInt64SS a k).trans hr

def E_w_heldInt64S : Tabs := (mkE tab [] [])
set_option maxRecDepth 4000 in
theorem ek_w_heldInt64S : EnvOK Try.prog E_w_heldInt64S := (mkE_ok tab_ok mixed AllF.nil AllX.nil)
def lm_L_w_heldInt64S_1 : LM := { mat := [], head := { slots := [(0, .dat false (.slice (.int .i64))), (1, .dat false (.int .i64)), (4, .dat false (.int .i64)), (5, .dat false (.int .i64))], blks := [] }, out := { slots := [(1, .dat false (.int .i64)), (4, .dat false (.int .i64))], blks := [] }, ex := 0, rets := true, run := iter L_w_heldInt64S_1 fuel }
def ll_w_heldInt64S : List (Nat × LP) := [(2, .lm lm_L_w_heldInt64S_1)]
theorem rd_L_w_heldInt64S_1 (rec' : ((List Int) × Int × Int × Int × Unit) × (Unit) → Option (Bool × ((Int × Int × Unit) × (Unit)))) (a : (List Int)) (k : Int) (t4 : Int) (i : Int) : round E_w_heldInt64S (lookL ll_w_heldInt64S) lm_L_w_heldInt64S_1 21 (loopAt Try.f60 0) rec' ((a, k, t4, i, ()), (())) = L_w_heldInt64S_1 rec' ((a, k, t4, i, ()), (())) := by kernel_rfl
theorem lo_w_heldInt64S : Loops E_w_heldInt64S (lookL ll_w_heldInt64S) Try.f60 := Loops.list (by kernel_rfl) (by kernel_rfl) ⟨LoopOK.iter (step := L_w_heldInt64S_1) (N := fun _ => fuel) (fun rec' x => by obtain ⟨⟨a, k, t4, i, ⟨⟩⟩, ⟨⟨⟩⟩⟩ := x; exact rd_L_w_heldInt64S_1 rec' a k t4 i) fun _ => rfl, trivial⟩
theorem ev_w_heldInt64S (a : (List Int)) (k : Int) : evalF E_w_heldInt64S (lookL ll_w_heldInt64S) Try.f60 [.ro false (.slice (.int .i64)), .ro false (.int .i64)] (.one false (.int .i64)) (a, k, ()) = g_w_heldInt64S a k := by kernel_rfl
def m_w_heldInt64S : FM := { ps := [.ro false (.slice (.int .i64)), .ro false (.int .i64)], res := .one false (.int .i64), run := fun x => g_w_heldInt64S x.1 x.2.1 }
set_option maxRecDepth 4000 in
theorem ok_w_heldInt64S : FmOK Try.prog 60 m_w_heldInt64S := @FmOK.made Try.prog E_w_heldInt64S ek_w_heldInt64S 60 Try.f60 (lookL ll_w_heldInt64S) m_w_heldInt64S Try.func60 (by kernel_rfl) lo_w_heldInt64S fun ds out _ hr => by obtain ⟨a, k, ⟨⟩⟩ := ds; exact (ev_w_heldInt64S a k).trans hr

def E_w_heldInt64SS : Tabs := (mkE tab [(60, m_w_heldInt64S)] [])
set_option maxRecDepth 4000 in
theorem ek_w_heldInt64SS : EnvOK Try.prog E_w_heldInt64SS := (mkE_ok tab_ok mixed (AllF.cons ok_w_heldInt64S AllF.nil) AllX.nil)
def lm_L_w_heldInt64SS_1 : LM := { mat := [], head := { slots := [(0, .dat false (.slice (.slice (.int .i64)))), (1, .dat false (.int .i64)), (4, .dat false (.int .i64)), (5, .dat false (.int .i64))], blks := [] }, out := { slots := [(1, .dat false (.int .i64)), (4, .dat false (.int .i64))], blks := [] }, ex := 0, rets := true, run := iter L_w_heldInt64SS_1 fuel }
def ll_w_heldInt64SS : List (Nat × LP) := [(2, .lm lm_L_w_heldInt64SS_1)]
theorem rd_L_w_heldInt64SS_1 (rec' : ((List (List Int)) × Int × Int × Int × Unit) × (Unit) → Option (Bool × ((Int × Int × Unit) × (Unit)))) (a : (List (List Int))) (k : Int) (t4 : Int) (i : Int) : round E_w_heldInt64SS (lookL ll_w_heldInt64SS) lm_L_w_heldInt64SS_1 21 (loopAt Try.f29 0) rec' ((a, k, t4, i, ()), (())) = L_w_heldInt64SS_1 rec' ((a, k, t4, i, ()), (())) := by kernel_rfl
theorem lo_w_heldInt64SS : Loops E_w_heldInt64SS (lookL ll_w_heldInt64SS) Try.f29 := Loops.list (by kernel_rfl) (by kernel_rfl) ⟨LoopOK.iter (step := L_w_heldInt64SS_1) (N := fun _ => fuel) (fun rec' x => by obtain ⟨⟨a, k, t4, i, ⟨⟩⟩, ⟨⟨⟩⟩⟩ := x; exact rd_L_w_heldInt64SS_1 rec' a k t4 i) fun _ => rfl, trivial⟩
theorem ev_w_heldInt64SS (a : (List (List Int))) (k : Int) : evalF E_w_heldInt64SS (lookL ll_w_heldInt64SS) Try.f29 [.ro false (.slice (.slice (.int .i64))), .ro false (.int .i64)] (.one false (.int .i64)) (a, k, ()) = g_w_heldInt64SS a k := by kernel_rfl
def m_w_heldInt64SS : FM := { ps := [.ro false (.slice (.slice (.int .i64))), .ro false (.int .i64)], res := .one false (.int .i64), run := fun x => g_w_heldInt64SS x.1 x.2.1 }
set_option maxRecDepth 4000 in
theorem ok_w_heldInt64SS : FmOK Try.prog 29 m_w_heldInt64SS := @FmOK.made Try.prog E_w_heldInt64SS ek_w_heldInt64SS 29 Try.f29 (lookL ll_w_heldInt64SS) m_w_heldInt64SS Try.func29 (by kernel_rfl) lo_w_heldInt64SS fun ds out _ hr => by obtain ⟨a, k, ⟨⟩⟩ := ds; exact (ev_w_heldInt64SS a k).trans hr

def E_w_FnExactPartsOfFrames : Tabs := (mkE tab [(25, m_s_PartsOfFrames), (26, m_i_PartsOfFrames), (27, m_w_eqInt64SS), (29, m_w_heldInt64SS)] [(28, m_w_markInt64SS)])
set_option maxRecDepth 4000 in
theorem ek_w_FnExactPartsOfFrames : EnvOK Try.prog E_w_FnExactPartsOfFrames := (mkE_ok tab_ok mixed (AllF.cons ok_s_PartsOfFrames (AllF.cons ok_i_PartsOfFrames (AllF.cons ok_w_eqInt64SS (AllF.cons ok_w_heldInt64SS AllF.nil)))) (AllX.cons ok_w_markInt64SS AllX.nil))
theorem ev_w_FnExactPartsOfFrames (aCount : Int) (aWorkers : Int) : evalF E_w_FnExactPartsOfFrames noL Try.f5 [.ro false (.int .i64), .ro false (.int .i64)] (.one false .bool) (aCount, aWorkers, ()) = g_w_FnExactPartsOfFrames aCount aWorkers := by kernel_rfl
def m_w_FnExactPartsOfFrames : FM := { ps := [.ro false (.int .i64), .ro false (.int .i64)], res := .one false .bool, run := fun x => g_w_FnExactPartsOfFrames x.1 x.2.1 }
set_option maxRecDepth 4000 in
theorem ok_w_FnExactPartsOfFrames : FmOK Try.prog 5 m_w_FnExactPartsOfFrames := @FmOK.made Try.prog E_w_FnExactPartsOfFrames ek_w_FnExactPartsOfFrames 5 Try.f5 noL m_w_FnExactPartsOfFrames Try.func5 (by kernel_rfl) (Loops.none (by kernel_rfl)) fun ds out _ hr => by obtain ⟨aCount, aWorkers, ⟨⟩⟩ := ds; exact (ev_w_FnExactPartsOfFrames aCount aWorkers).trans hr

def E_s_l07Weights : Tabs := (mkE tab [] [])
set_option maxRecDepth 4000 in
theorem ek_s_l07Weights : EnvOK Try.prog E_s_l07Weights := (mkE_ok tab_ok mixed AllF.nil AllX.nil)
def lm_L_s_l07Weights_1 : LM := { mat := [], head := { slots := [(0, .dat false (.slice (.flt .f32))), (1, .dat false (.flt .f32)), (6, .cst (.sl (.row 0))), (7, .dat false (.int .i64))], blks := [.row false (.flt .f32)] }, out := { slots := [(0, .dat false (.slice (.flt .f32))), (1, .dat false (.flt .f32)), (6, .cst (.sl (.row 0))), (7, .dat false (.int .i64))], blks := [.row false (.flt .f32)] }, ex := 0, rets := false, run := iter L_s_l07Weights_1 fuel }
def ll_s_l07Weights : List (Nat × LP) := [(10, .lm lm_L_s_l07Weights_1)]
theorem rd_L_s_l07Weights_1 (rec' : ((List Nat) × Nat × Int × Unit) × ((List Nat) × Unit) → Option (((List Nat) × Nat × Int × Unit) × ((List Nat) × Unit))) (points : (List Nat)) (xx : Nat) (i : Int) (r0 : (List Nat)) : round E_s_l07Weights (lookL ll_s_l07Weights) lm_L_s_l07Weights_1 70 (loopAt Try.f80 0) rec' ((points, xx, i, ()), (r0, ())) = L_s_l07Weights_1 rec' ((points, xx, i, ()), (r0, ())) := by kernel_rfl
theorem lo_s_l07Weights : Loops E_s_l07Weights (lookL ll_s_l07Weights) Try.f80 := Loops.list (by kernel_rfl) (by kernel_rfl) ⟨LoopOK.iter (step := L_s_l07Weights_1) (N := fun _ => fuel) (fun rec' x => by obtain ⟨⟨points, xx, i, ⟨⟩⟩, ⟨r0, ⟨⟩⟩⟩ := x; exact rd_L_s_l07Weights_1 rec' points xx i r0) fun _ => rfl, trivial⟩
theorem ev_s_l07Weights (points : (List Nat)) (xx : Nat) : evalF E_s_l07Weights (lookL ll_s_l07Weights) Try.f80 [.ro false (.slice (.flt .f32)), .ro false (.flt .f32)] (.one false (.slice (.flt .f32))) (points, xx, ()) = g_s_l07Weights points xx := by kernel_rfl
def m_s_l07Weights : FM := { ps := [.ro false (.slice (.flt .f32)), .ro false (.flt .f32)], res := .one false (.slice (.flt .f32)), run := fun x => g_s_l07Weights x.1 x.2.1 }
set_option maxRecDepth 4000 in
theorem ok_s_l07Weights : FmOK Try.prog 80 m_s_l07Weights := @FmOK.made Try.prog E_s_l07Weights ek_s_l07Weights 80 Try.f80 (lookL ll_s_l07Weights) m_s_l07Weights Try.func80 (by kernel_rfl) lo_s_l07Weights fun ds out _ hr => by obtain ⟨points, xx, ⟨⟩⟩ := ds; exact (ev_s_l07Weights points xx).trans hr

def E_s_WeightsAt : Tabs := (mkE tab [(71, m_s_l07Scale), (80, m_s_l07Weights)] [])
set_option maxRecDepth 4000 in
theorem ek_s_WeightsAt : EnvOK Try.prog E_s_WeightsAt := (mkE_ok tab_ok mixed (AllF.cons ok_s_l07Scale (AllF.cons ok_s_l07Weights AllF.nil)) AllX.nil)
theorem ev_s_WeightsAt (points : (List Nat)) (xx : Nat) : evalF E_s_WeightsAt noL Try.f30 [.ro false (.slice (.flt .f32)), .ro false (.flt .f32)] (.tup [(false, (.slice (.flt .f32))), (false, .bool)]) (points, xx, ()) = g_s_WeightsAt points xx := by kernel_rfl
def m_s_WeightsAt : FM := { ps := [.ro false (.slice (.flt .f32)), .ro false (.flt .f32)], res := .tup [(false, (.slice (.flt .f32))), (false, .bool)], run := fun x => g_s_WeightsAt x.1 x.2.1 }
set_option maxRecDepth 4000 in
theorem ok_s_WeightsAt : FmOK Try.prog 30 m_s_WeightsAt := @FmOK.made Try.prog E_s_WeightsAt ek_s_WeightsAt 30 Try.f30 noL m_s_WeightsAt Try.func30 (by kernel_rfl) (Loops.none (by kernel_rfl)) fun ds out _ hr => by obtain ⟨points, xx, ⟨⟩⟩ := ds; exact (ev_s_WeightsAt points xx).trans hr

def E_i_WeightsAt : Tabs := (mkE tab [(17, m_i_IsScale)] [])
set_option maxRecDepth 4000 in
theorem ek_i_WeightsAt : EnvOK Try.prog E_i_WeightsAt := (mkE_ok tab_ok mixed (AllF.cons ok_i_IsScale AllF.nil) AllX.nil)
def lm_L_i_WeightsAt_1 : LM := { mat := [], head := { slots := [(0, .dat false (.slice (.flt .f32))), (1, .dat false (.flt .f32)), (6, .cst (.sl (.row 0))), (8, .dat false (.int .i64))], blks := [.row false (.flt .f32)] }, out := { slots := [(0, .dat false (.slice (.flt .f32))), (1, .dat false (.flt .f32)), (6, .cst (.sl (.row 0))), (8, .dat false (.int .i64))], blks := [.row false (.flt .f32)] }, ex := 1, rets := false, run := iter L_i_WeightsAt_1 fuel }
def ll_i_WeightsAt : List (Nat × LP) := [(6, .lm lm_L_i_WeightsAt_1)]
theorem rd_L_i_WeightsAt_1 (rec' : ((List Nat) × Nat × Int × Unit) × ((List Nat) × Unit) → Option (((List Nat) × Nat × Int × Unit) × ((List Nat) × Unit))) (points : (List Nat)) (xx : Nat) (i : Int) (r0 : (List Nat)) : round E_i_WeightsAt (lookL ll_i_WeightsAt) lm_L_i_WeightsAt_1 79 (loopAt Try.f31 0) rec' ((points, xx, i, ()), (r0, ())) = L_i_WeightsAt_1 rec' ((points, xx, i, ()), (r0, ())) := by kernel_rfl
theorem lo_i_WeightsAt : Loops E_i_WeightsAt (lookL ll_i_WeightsAt) Try.f31 := Loops.list (by kernel_rfl) (by kernel_rfl) ⟨LoopOK.iter (step := L_i_WeightsAt_1) (N := fun _ => fuel) (fun rec' x => by obtain ⟨⟨points, xx, i, ⟨⟩⟩, ⟨r0, ⟨⟩⟩⟩ := x; exact rd_L_i_WeightsAt_1 rec' points xx i r0) fun _ => rfl, trivial⟩
theorem ev_i_WeightsAt (points : (List Nat)) (xx : Nat) : evalF E_i_WeightsAt (lookL ll_i_WeightsAt) Try.f31 [.ro false (.slice (.flt .f32)), .ro false (.flt .f32)] (.tup [(false, (.slice (.flt .f32))), (false, .bool)]) (points, xx, ()) = g_i_WeightsAt points xx := by kernel_rfl
def m_i_WeightsAt : FM := { ps := [.ro false (.slice (.flt .f32)), .ro false (.flt .f32)], res := .tup [(false, (.slice (.flt .f32))), (false, .bool)], run := fun x => g_i_WeightsAt x.1 x.2.1 }
set_option maxRecDepth 4000 in
theorem ok_i_WeightsAt : FmOK Try.prog 31 m_i_WeightsAt := @FmOK.made Try.prog E_i_WeightsAt ek_i_WeightsAt 31 Try.f31 (lookL ll_i_WeightsAt) m_i_WeightsAt Try.func31 (by kernel_rfl) lo_i_WeightsAt fun ds out _ hr => by obtain ⟨points, xx, ⟨⟩⟩ := ds; exact (ev_i_WeightsAt points xx).trans hr

def E_w_markFloat32S : Tabs := (mkE tab [] [])
set_option maxRecDepth 4000 in
theorem ek_w_markFloat32S : EnvOK Try.prog E_w_markFloat32S := (mkE_ok tab_ok mixed AllF.nil AllX.nil)
def lm_L_w_markFloat32S_1 : LM := { mat := [], head := { slots := [(0, .cst (.sl (.row 0))), (1, .dat false (.int .i64)), (5, .dat false (.int .i64))], blks := [.row true (.flt .f32)] }, out := { slots := [(1, .dat false (.int .i64))], blks := [.row true (.flt .f32)] }, ex := 0, rets := false, run := iter L_w_markFloat32S_1 fuel }
def ll_w_markFloat32S : List (Nat × LP) := [(2, .lm lm_L_w_markFloat32S_1)]
theorem rd_L_w_markFloat32S_1 (rec' : (Int × Int × Unit) × ((List Nat) × Unit) → Option ((Int × Unit) × ((List Nat) × Unit))) (k : Int) (i : Int) (r0 : (List Nat)) : round E_w_markFloat32S (lookL ll_w_markFloat32S) lm_L_w_markFloat32S_1 20 (loopAt Try.f32 0) rec' ((k, i, ()), (r0, ())) = L_w_markFloat32S_1 rec' ((k, i, ()), (r0, ())) := by kernel_rfl
theorem lo_w_markFloat32S : Loops E_w_markFloat32S (lookL ll_w_markFloat32S) Try.f32 := Loops.list (by kernel_rfl) (by kernel_rfl) ⟨LoopOK.iter (step := L_w_markFloat32S_1) (N := fun _ => fuel) (fun rec' x => by obtain ⟨⟨k, i, ⟨⟩⟩, ⟨r0, ⟨⟩⟩⟩ := x; exact rd_L_w_markFloat32S_1 rec' k i r0) fun _ => rfl, trivial⟩
theorem ev_w_markFloat32S (a : (List Nat)) (k : Int) : evalX E_w_markFloat32S (lookL ll_w_markFloat32S) Try.f32 [.own false (.slice (.flt .f32)), .ro false (.int .i64)] (.one false (.int .i64)) (a, k, ()) = g_w_markFloat32S a k := by kernel_rfl
def m_w_markFloat32S : FX := { ps := [.own false (.slice (.flt .f32)), .ro false (.int .i64)], res := .one false (.int .i64), run := fun x => g_w_markFloat32S x.1 x.2.1 }
set_option maxRecDepth 4000 in
theorem ok_w_markFloat32S : FxOK Try.prog 32 m_w_markFloat32S := @FxOK.made Try.prog E_w_markFloat32S ek_w_markFloat32S 32 Try.f32 (lookL ll_w_markFloat32S) m_w_markFloat32S Try.func32 (by kernel_rfl) lo_w_markFloat32S fun ds out _ hr => by obtain ⟨a, k, ⟨⟩⟩ := ds; exact (ev_w_markFloat32S a k).trans hr

def E_w_heldFloat32S : Tabs := (mkE tab [] [])
set_option maxRecDepth 4000 in
theorem ek_w_heldFloat32S : EnvOK Try.prog E_w_heldFloat32S := (mkE_ok tab_ok mixed AllF.nil AllX.nil)
def lm_L_w_heldFloat32S_1 : LM := { mat := [], head := { slots := [(0, .dat false (.slice (.flt .f32))), (1, .dat false (.int .i64)), (4, .dat false (.int .i64)), (5, .dat false (.int .i64))], blks := [] }, out := { slots := [(1, .dat false (.int .i64)), (4, .dat false (.int .i64))], blks := [] }, ex := 0, rets := true, run := iter L_w_heldFloat32S_1 fuel }
def ll_w_heldFloat32S : List (Nat × LP) := [(2, .lm lm_L_w_heldFloat32S_1)]
theorem rd_L_w_heldFloat32S_1 (rec' : ((List Nat) × Int × Int × Int × Unit) × (Unit) → Option (Bool × ((Int × Int × Unit) × (Unit)))) (a : (List Nat)) (k : Int) (t4 : Int) (i : Int) : round E_w_heldFloat32S (lookL ll_w_heldFloat32S) lm_L_w_heldFloat32S_1 22 (loopAt Try.f33 0) rec' ((a, k, t4, i, ()), (())) = L_w_heldFloat32S_1 rec' ((a, k, t4, i, ()), (())) := by kernel_rfl
theorem lo_w_heldFloat32S : Loops E_w_heldFloat32S (lookL ll_w_heldFloat32S) Try.f33 := Loops.list (by kernel_rfl) (by kernel_rfl) ⟨LoopOK.iter (step := L_w_heldFloat32S_1) (N := fun _ => fuel) (fun rec' x => by obtain ⟨⟨a, k, t4, i, ⟨⟩⟩, ⟨⟨⟩⟩⟩ := x; exact rd_L_w_heldFloat32S_1 rec' a k t4 i) fun _ => rfl, trivial⟩
theorem ev_w_heldFloat32S (a : (List Nat)) (k : Int) : evalF E_w_heldFloat32S (lookL ll_w_heldFloat32S) Try.f33 [.ro false (.slice (.flt .f32)), .ro false (.int .i64)] (.one false (.int .i64)) (a, k, ()) = g_w_heldFloat32S a k := by kernel_rfl
def m_w_heldFloat32S : FM := { ps := [.ro false (.slice (.flt .f32)), .ro false (.int .i64)], res := .one false (.int .i64), run := fun x => g_w_heldFloat32S x.1 x.2.1 }
set_option maxRecDepth 4000 in
theorem ok_w_heldFloat32S : FmOK Try.prog 33 m_w_heldFloat32S := @FmOK.made Try.prog E_w_heldFloat32S ek_w_heldFloat32S 33 Try.f33 (lookL ll_w_heldFloat32S) m_w_heldFloat32S Try.func33 (by kernel_rfl) lo_w_heldFloat32S fun ds out _ hr => by obtain ⟨a, k, ⟨⟩⟩ := ds; exact (ev_w_heldFloat32S a k).trans hr

def E_w_FnExactWeightsAt : Tabs := (mkE tab [(16, m_w_toFloat32S), (30, m_s_WeightsAt), (31, m_i_WeightsAt), (18, m_w_eqFloat32S), (33, m_w_heldFloat32S)] [(32, m_w_markFloat32S)])
set_option maxRecDepth 4000 in
theorem ek_w_FnExactWeightsAt : EnvOK Try.prog E_w_FnExactWeightsAt := (mkE_ok tab_ok mixed (AllF.cons ok_w_toFloat32S (AllF.cons ok_s_WeightsAt (AllF.cons ok_i_WeightsAt (AllF.cons ok_w_eqFloat32S (AllF.cons ok_w_heldFloat32S AllF.nil))))) (AllX.cons ok_w_markFloat32S AllX.nil))
theorem ev_w_FnExactWeightsAt (aPoints : (List Nat)) (aX : Nat) : evalF E_w_FnExactWeightsAt noL Try.f6 [.ro false (.slice (.flt .f32)), .ro false (.flt .f32)] (.one false .bool) (aPoints, aX, ()) = g_w_FnExactWeightsAt aPoints aX := by kernel_rfl
def m_w_FnExactWeightsAt : FM := { ps := [.ro false (.slice (.flt .f32)), .ro false (.flt .f32)], res := .one false .bool, run := fun x => g_w_FnExactWeightsAt x.1 x.2.1 }
set_option maxRecDepth 4000 in
theorem ok_w_FnExactWeightsAt : FmOK Try.prog 6 m_w_FnExactWeightsAt := @FmOK.made Try.prog E_w_FnExactWeightsAt ek_w_FnExactWeightsAt 6 Try.f6 noL m_w_FnExactWeightsAt Try.func6 (by kernel_rfl) (Loops.none (by kernel_rfl)) fun ds out _ hr => by obtain ⟨aPoints, aX, ⟨⟩⟩ := ds; exact (ev_w_FnExactWeightsAt aPoints aX).trans hr

def E_s_l06Count : Tabs := (mkE tab [(77, m_s_l00In)] [])
set_option maxRecDepth 4000 in
theorem ek_s_l06Count : EnvOK Try.prog E_s_l06Count := (mkE_ok tab_ok mixed (AllF.cons ok_s_l00In AllF.nil) AllX.nil)
theorem ev_s_l06Count (count : Int) : evalF E_s_l06Count noL Try.f81 [.ro false (.int .i64)] (.one false .bool) (count, ()) = g_s_l06Count count := by kernel_rfl
def m_s_l06Count : FM := { ps := [.ro false (.int .i64)], res := .one false .bool, run := fun x => some (t_s_l06Count x.1) }
set_option maxRecDepth 4000 in
theorem ok_s_l06Count : FmOK Try.prog 81 m_s_l06Count := @FmOK.made Try.prog E_s_l06Count ek_s_l06Count 81 Try.f81 noL m_s_l06Count Try.func81 (by kernel_rfl) (Loops.none (by kernel_rfl)) fun ds out _ hr => by obtain ⟨count, ⟨⟩⟩ := ds; exact (ev_s_l06Count count).trans ((q_s_l06Count count).trans hr)

def E_s_l10Pose : Tabs := (mkE tab [] [])
set_option maxRecDepth 4000 in
theorem ek_s_l10Pose : EnvOK Try.prog E_s_l10Pose := (mkE_ok tab_ok mixed AllF.nil AllX.nil)
def lm_L_s_l10Pose_1 : LM := { mat := [], head := { slots := [(0, .dat false (.slice (.flt .f32))), (2, .cst (.ptr (.box 0 0))), (3, .cst (.ptr (.box 2 0))), (4, .dat false (.int .i64))], blks := [.box [.dat tVec, .cst (.sl .nil)], .row false tTurn, .box [.dat tVec, .cst (.sl (.row 1))]] }, out := { slots := [(2, .cst (.ptr (.box 0 0))), (3, .cst (.ptr (.box 2 0)))], blks := [.box [.dat tVec, .cst (.sl .nil)], .row false tTurn, .box [.dat tVec, .cst (.sl (.row 1))]] }, ex := 0, rets := false, run := iter L_s_l10Pose_1 fuel }
def ll_s_l10Pose : List (Nat × LP) := [(3, .lm lm_L_s_l10Pose_1)]
theorem rd_L_s_l10Pose_1 (rec' : ((List Nat) × Int × Unit) × ((dVec × Unit) × (List dTurn) × (dVec × Unit) × Unit) → Option ((Unit) × ((dVec × Unit) × (List dTurn) × (dVec × Unit) × Unit))) (list : (List Nat)) (i : Int) (b0 : dVec) (r1 : (List dTurn)) (b2 : dVec) : round E_s_l10Pose (lookL ll_s_l10Pose) lm_L_s_l10Pose_1 49 (loopAt Try.f82 0) rec' ((list, i, ()), ((b0, ()), r1, (b2, ()), ())) = L_s_l10Pose_1 rec' ((list, i, ()), ((b0, ()), r1, (b2, ()), ())) := by kernel_rfl
theorem lo_s_l10Pose : Loops E_s_l10Pose (lookL ll_s_l10Pose) Try.f82 := Loops.list (by kernel_rfl) (by kernel_rfl) ⟨LoopOK.iter (step := L_s_l10Pose_1) (N := fun _ => fuel) (fun rec' x => by obtain ⟨⟨list, i, ⟨⟩⟩, ⟨⟨b0, ⟨⟩⟩, r1, ⟨b2, ⟨⟩⟩, ⟨⟩⟩⟩ := x; exact rd_L_s_l10Pose_1 rec' list i b0 r1 b2) fun _ => rfl, trivial⟩
theorem ev_s_l10Pose (list : (List Nat)) : evalF E_s_l10Pose (lookL ll_s_l10Pose) Try.f82 [.ro false (.slice (.flt .f32))] (.one true tPose) (list, ()) = g_s_l10Pose list := by kernel_rfl
def m_s_l10Pose : FM := { ps := [.ro false (.slice (.flt .f32))], res := .one true tPose, run := fun x => g_s_l10Pose x.1 }
set_option maxRecDepth 4000 in
theorem ok_s_l10Pose : FmOK Try.prog 82 m_s_l10Pose := @FmOK.made Try.prog E_s_l10Pose ek_s_l10Pose 82 Try.f82 (lookL ll_s_l10Pose) m_s_l10Pose Try.func82 (by kernel_rfl) lo_s_l10Pose fun ds out _ hr => by obtain ⟨list, ⟨⟩⟩ := ds; exact (ev_s_l10Pose list).trans hr

def E_s_PoseOfNumbers : Tabs := (mkE tab [(81, m_s_l06Count), (82, m_s_l10Pose)] [])
set_option maxRecDepth 4000 in
theorem ek_s_PoseOfNumbers : EnvOK Try.prog E_s_PoseOfNumbers := (mkE_ok tab_ok mixed (AllF.cons ok_s_l06Count (AllF.cons ok_s_l10Pose AllF.nil)) AllX.nil)
theorem ev_s_PoseOfNumbers (list : (List Nat)) : evalF E_s_PoseOfNumbers noL Try.f34 [.ro false (.slice (.flt .f32))] (.tup [(true, tPose), (false, .bool)]) (list, ()) = g_s_PoseOfNumbers list := by kernel_rfl
def m_s_PoseOfNumbers : FM := { ps := [.ro false (.slice (.flt .f32))], res := .tup [(true, tPose), (false, .bool)], run := fun x => g_s_PoseOfNumbers x.1 }
set_option maxRecDepth 4000 in
theorem ok_s_PoseOfNumbers : FmOK Try.prog 34 m_s_PoseOfNumbers := @FmOK.made Try.prog E_s_PoseOfNumbers ek_s_PoseOfNumbers 34 Try.f34 noL m_s_PoseOfNumbers Try.func34 (by kernel_rfl) (Loops.none (by kernel_rfl)) fun ds out _ hr => by obtain ⟨list, ⟨⟩⟩ := ds; exact (ev_s_PoseOfNumbers list).trans hr

def E_i_PoseOfNumbers : Tabs := (mkE tab [] [])
set_option maxRecDepth 4000 in
theorem ek_i_PoseOfNumbers : EnvOK Try.prog E_i_PoseOfNumbers := (mkE_ok tab_ok mixed AllF.nil AllX.nil)
def lm_L_i_PoseOfNumbers_1 : LM := { mat := [.cell 1 3 tTurn], head := { slots := [(0, .dat false (.slice (.flt .f32))), (2, .cst (.ptr (.box 0 0))), (4, .dat false (.int .i64)), (5, .cst (.ptr (.box 1 0))), (6, .dat false (.int .i64))], blks := [.box [.dat tVec, .cst (.sl .nil)], .box [.dat tVec, .cst (.sl (.row 2))], .row false tTurn] }, out := { slots := [(2, .cst (.ptr (.box 0 0))), (5, .cst (.ptr (.box 1 0)))], blks := [.box [.dat tVec, .cst (.sl .nil)], .box [.dat tVec, .cst (.sl (.row 2))], .row false tTurn] }, ex := 0, rets := false, run := iter L_i_PoseOfNumbers_1 fuel }
def ll_i_PoseOfNumbers : List (Nat × LP) := [(6, .lm lm_L_i_PoseOfNumbers_1)]
theorem rd_L_i_PoseOfNumbers_1 (rec' : ((List Nat) × Int × Int × Unit) × ((dVec × Unit) × (dVec × Unit) × (List dTurn) × Unit) → Option ((Unit) × ((dVec × Unit) × (dVec × Unit) × (List dTurn) × Unit))) (list : (List Nat)) (n : Int) (i : Int) (b0 : dVec) (b1 : dVec) (r2 : (List dTurn)) : round E_i_PoseOfNumbers (lookL ll_i_PoseOfNumbers) lm_L_i_PoseOfNumbers_1 66 (loopAt Try.f35 0) rec' ((list, n, i, ()), ((b0, ()), (b1, ()), r2, ())) = L_i_PoseOfNumbers_1 rec' ((list, n, i, ()), ((b0, ()), (b1, ()), r2, ())) := by kernel_rfl
theorem lo_i_PoseOfNumbers : Loops E_i_PoseOfNumbers (lookL ll_i_PoseOfNumbers) Try.f35 := Loops.list (by kernel_rfl) (by kernel_rfl) ⟨LoopOK.iter (step := L_i_PoseOfNumbers_1) (N := fun _ => fuel) (fun rec' x => by obtain ⟨⟨list, n, i, ⟨⟩⟩, ⟨⟨b0, ⟨⟩⟩, ⟨b1, ⟨⟩⟩, r2, ⟨⟩⟩⟩ := x; exact rd_L_i_PoseOfNumbers_1 rec' list n i b0 b1 r2) fun _ => rfl, trivial⟩
theorem ev_i_PoseOfNumbers (list : (List Nat)) : evalF E_i_PoseOfNumbers (lookL ll_i_PoseOfNumbers) Try.f35 [.ro false (.slice (.flt .f32))] (.tup [(true, tPose), (false, .bool)]) (list, ()) = g_i_PoseOfNumbers list := by kernel_rfl
def m_i_PoseOfNumbers : FM := { ps := [.ro false (.slice (.flt .f32))], res := .tup [(true, tPose), (false, .bool)], run := fun x => g_i_PoseOfNumbers x.1 }
set_option maxRecDepth 4000 in
theorem ok_i_PoseOfNumbers : FmOK Try.prog 35 m_i_PoseOfNumbers := @FmOK.made Try.prog E_i_PoseOfNumbers ek_i_PoseOfNumbers 35 Try.f35 (lookL ll_i_PoseOfNumbers) m_i_PoseOfNumbers Try.func35 (by kernel_rfl) lo_i_PoseOfNumbers fun ds out _ hr => by obtain ⟨list, ⟨⟩⟩ := ds; exact (ev_i_PoseOfNumbers list).trans hr

def E_w_eqTurn : Tabs := (mkE tab [(46, m_w_sameFloat)] [])
set_option maxRecDepth 4000 in
theorem ek_w_eqTurn : EnvOK Try.prog E_w_eqTurn := (mkE_ok tab_ok mixed (AllF.cons ok_w_sameFloat AllF.nil) AllX.nil)
theorem ev_w_eqTurn (a : dTurn) (b : dTurn) : evalF E_w_eqTurn noL Try.f122 [.ro true tTurn, .ro true tTurn] (.one false .bool) (a, b, ()) = g_w_eqTurn a b := by kernel_rfl
def m_w_eqTurn : FM := { ps := [.ro true tTurn, .ro true tTurn], res := .one false .bool, run := fun x => some (t_w_eqTurn x.1 x.2.1) }
set_option maxRecDepth 4000 in
theorem ok_w_eqTurn : FmOK Try.prog 122 m_w_eqTurn := @FmOK.made Try.prog E_w_eqTurn ek_w_eqTurn 122 Try.f122 noL m_w_eqTurn Try.func122 (by kernel_rfl) (Loops.none (by kernel_rfl)) fun ds out _ hr => by obtain ⟨a, b, ⟨⟩⟩ := ds; exact (ev_w_eqTurn a b).trans ((q_w_eqTurn a b).trans hr)

def E_w_eqTurnS : Tabs := (mkE tab [(122, m_w_eqTurn)] [])
set_option maxRecDepth 4000 in
theorem ek_w_eqTurnS : EnvOK Try.prog E_w_eqTurnS := (mkE_ok tab_ok mixed (AllF.cons ok_w_eqTurn AllF.nil) AllX.nil)
def lm_L_w_eqTurnS_1 : LM := { mat := [], head := { slots := [(0, .dat false (.slice tTurn)), (1, .dat false (.slice tTurn)), (4, .dat false .bool), (5, .dat false (.int .i64))], blks := [] }, out := { slots := [(4, .dat false .bool)], blks := [] }, ex := 0, rets := true, run := iter L_w_eqTurnS_1 fuel }
def ll_w_eqTurnS : List (Nat × LP) := [(4, .lm lm_L_w_eqTurnS_1)]
theorem rd_L_w_eqTurnS_1 (rec' : ((List dTurn) × (List dTurn) × Bool × Int × Unit) × (Unit) → Option (Bool × ((Bool × Unit) × (Unit)))) (a : (List dTurn)) (b : (List dTurn)) (t4 : Bool) (i : Int) : round E_w_eqTurnS (lookL ll_w_eqTurnS) lm_L_w_eqTurnS_1 27 (loopAt Try.f83 0) rec' ((a, b, t4, i, ()), (())) = L_w_eqTurnS_1 rec' ((a, b, t4, i, ()), (())) := by kernel_rfl
theorem lo_w_eqTurnS : Loops E_w_eqTurnS (lookL ll_w_eqTurnS) Try.f83 := Loops.list (by kernel_rfl) (by kernel_rfl) ⟨LoopOK.iter (step := L_w_eqTurnS_1) (N := fun _ => fuel) (fun rec' x => by obtain ⟨⟨a, b, t4, i, ⟨⟩⟩, ⟨⟨⟩⟩⟩ := x; exact rd_L_w_eqTurnS_1 rec' a b t4 i) fun _ => rfl, trivial⟩
theorem ev_w_eqTurnS (a : (List dTurn)) (b : (List dTurn)) : evalF E_w_eqTurnS (lookL ll_w_eqTurnS) Try.f83 [.ro false (.slice tTurn), .ro false (.slice tTurn)] (.one false .bool) (a, b, ()) = g_w_eqTurnS a b := by kernel_rfl
def m_w_eqTurnS : FM := { ps := [.ro false (.slice tTurn), .ro false (.slice tTurn)], res := .one false .bool, run := fun x => g_w_eqTurnS x.1 x.2.1 }
set_option maxRecDepth 4000 in
theorem ok_w_eqTurnS : FmOK Try.prog 83 m_w_eqTurnS := @FmOK.made Try.prog E_w_eqTurnS ek_w_eqTurnS 83 Try.f83 (lookL ll_w_eqTurnS) m_w_eqTurnS Try.func83 (by kernel_rfl) lo_w_eqTurnS fun ds out _ hr => by obtain ⟨a, b, ⟨⟩⟩ := ds; exact (ev_w_eqTurnS a b).trans hr

def E_w_eqPose : Tabs := (mkE tab [(23, m_w_eqVector), (83, m_w_eqTurnS)] [])
set_option maxRecDepth 4000 in
theorem ek_w_eqPose : EnvOK Try.prog E_w_eqPose := (mkE_ok tab_ok mixed (AllF.cons ok_w_eqVector (AllF.cons ok_w_eqTurnS AllF.nil)) AllX.nil)
theorem ev_w_eqPose (a : dPose) (b : dPose) : evalF E_w_eqPose noL Try.f36 [.ro true tPose, .ro true tPose] (.one false .bool) (a, b, ()) = g_w_eqPose a b := by kernel_rfl
def m_w_eqPose : FM := { ps := [.ro true tPose, .ro true tPose], res := .one false .bool, run := fun x => g_w_eqPose x.1 x.2.1 }
set_option maxRecDepth 4000 in
theorem ok_w_eqPose : FmOK Try.prog 36 m_w_eqPose := @FmOK.made Try.prog E_w_eqPose ek_w_eqPose 36 Try.f36 noL m_w_eqPose Try.func36 (by kernel_rfl) (Loops.none (by kernel_rfl)) fun ds out _ hr => by obtain ⟨a, b, ⟨⟩⟩ := ds; exact (ev_w_eqPose a b).trans hr

def E_w_markTurnS : Tabs := (mkE tab [] [])
set_option maxRecDepth 4000 in
theorem ek_w_markTurnS : EnvOK Try.prog E_w_markTurnS := (mkE_ok tab_ok mixed AllF.nil AllX.nil)
def lm_L_w_markTurnS_1 : LM := { mat := [], head := { slots := [(0, .cst (.sl (.row 0))), (1, .dat false (.int .i64)), (5, .dat false (.int .i64))], blks := [.row true tTurn] }, out := { slots := [(1, .dat false (.int .i64))], blks := [.row true tTurn] }, ex := 0, rets := false, run := iter L_w_markTurnS_1 fuel }
def ll_w_markTurnS : List (Nat × LP) := [(2, .lm lm_L_w_markTurnS_1)]
theorem rd_L_w_markTurnS_1 (rec' : (Int × Int × Unit) × ((List dTurn) × Unit) → Option ((Int × Unit) × ((List dTurn) × Unit))) (k : Int) (i : Int) (r0 : (List dTurn)) : round E_w_markTurnS (lookL ll_w_markTurnS) lm_L_w_markTurnS_1 45 (loopAt Try.f84 0) rec' ((k, i, ()), (r0, ())) = L_w_markTurnS_1 rec' ((k, i, ()), (r0, ())) := by kernel_rfl
theorem lo_w_markTurnS : Loops E_w_markTurnS (lookL ll_w_markTurnS) Try.f84 := Loops.list (by kernel_rfl) (by kernel_rfl) ⟨LoopOK.iter (step := L_w_markTurnS_1) (N := fun _ => fuel) (fun rec' x => by obtain ⟨⟨k, i, ⟨⟩⟩, ⟨r0, ⟨⟩⟩⟩ := x; exact rd_L_w_markTurnS_1 rec' k i r0) fun _ => rfl, trivial⟩
theorem ev_w_markTurnS (a : (List dTurn)) (k : Int) : evalX E_w_markTurnS (lookL ll_w_markTurnS) Try.f84 [.own false (.slice tTurn), .ro false (.int .i64)] (.one false (.int .i64)) (a, k, ()) = g_w_markTurnS a k := by kernel_rfl
def m_w_markTurnS : FX := { ps := [.own false (.slice tTurn), .ro false (.int .i64)], res := .one false (.int .i64), run := fun x => g_w_markTurnS x.1 x.2.1 }
set_option maxRecDepth 4000 in
theorem ok_w_markTurnS : FxOK Try.prog 84 m_w_markTurnS := @FxOK.made Try.prog E_w_markTurnS ek_w_markTurnS 84 Try.f84 (lookL ll_w_markTurnS) m_w_markTurnS Try.func84 (by kernel_rfl) lo_w_markTurnS fun ds out _ hr => by obtain ⟨a, k, ⟨⟩⟩ := ds; exact (ev_w_markTurnS a k).trans hr

def E_w_markPose : Tabs := (mkE tab [] [(84, m_w_markTurnS)])
set_option maxRecDepth 4000 in
theorem ek_w_markPose : EnvOK Try.prog E_w_markPose := (mkE_ok tab_ok mixed AllF.nil (AllX.cons ok_w_markTurnS AllX.nil))
theorem ev_w_markPose (a : dPose) (k : Int) : evalX E_w_markPose noL Try.f37 [.own true tPose, .ro false (.int .i64)] (.one false (.int .i64)) (a, k, ()) = g_w_markPose a k := by kernel_rfl
def m_w_markPose : FX := { ps := [.own true tPose, .ro false (.int .i64)], res := .one false (.int .i64), run := fun x => g_w_markPose x.1 x.2.1 }
set_option maxRecDepth 4000 in
theorem ok_w_markPose : FxOK Try.prog 37 m_w_markPose := @FxOK.made Try.prog E_w_markPose ek_w_markPose 37 Try.f37 noL m_w_markPose Try.func37 (by kernel_rfl) (Loops.none (by kernel_rfl)) fun ds out _ hr => by obtain ⟨a, k, ⟨⟩⟩ := ds; exact (ev_w_markPose a k).trans hr

def E_w_heldTurnS : Tabs := (mkE tab [] [])
set_option maxRecDepth 4000 in
theorem ek_w_heldTurnS : EnvOK Try.prog E_w_heldTurnS := (mkE_ok tab_ok mixed AllF.nil AllX.nil)
def lm_L_w_heldTurnS_1 : LM := { mat := [], head := { slots := [(0, .dat false (.slice tTurn)), (1, .dat false (.int .i64)), (4, .dat false (.int .i64)), (5, .dat false (.int .i64))], blks := [] }, out := { slots := [(1, .dat false (.int .i64)), (4, .dat false (.int .i64))], blks := [] }, ex := 0, rets := true, run := iter L_w_heldTurnS_1 fuel }
def ll_w_heldTurnS : List (Nat × LP) := [(2, .lm lm_L_w_heldTurnS_1)]
theorem rd_L_w_heldTurnS_1 (rec' : ((List dTurn) × Int × Int × Int × Unit) × (Unit) → Option (Bool × ((Int × Int × Unit) × (Unit)))) (a : (List dTurn)) (k : Int) (t4 : Int) (i : Int) : round E_w_heldTurnS (lookL ll_w_heldTurnS) lm_L_w_heldTurnS_1 53 (loopAt Try.f85 0) rec' ((a, k, t4, i, ()), (())) = L_w_heldTurnS_1 rec' ((a, k, t4, i, ()), (())) := by kernel_rfl
theorem lo_w_heldTurnS : Loops E_w_heldTurnS (lookL ll_w_heldTurnS) Try.f85 := Loops.list (by kernel_rfl) (by kernel_rfl) ⟨LoopOK.iter (step := L_w_heldTurnS_1) (N := fun _ => fuel) (fun rec' x => by obtain ⟨⟨a, k, t4, i, ⟨⟩⟩, ⟨⟨⟩⟩⟩ := x; exact rd_L_w_heldTurnS_1 rec' a k t4 i) fun _ => rfl, trivial⟩
theorem ev_w_heldTurnS (a : (List dTurn)) (k : Int) : evalF E_w_heldTurnS (lookL ll_w_heldTurnS) Try.f85 [.ro false (.slice tTurn), .ro false (.int .i64)] (.one false (.int .i64)) (a, k, ()) = g_w_heldTurnS a k := by kernel_rfl
def m_w_heldTurnS : FM := { ps := [.ro false (.slice tTurn), .ro false (.int .i64)], res := .one false (.int .i64), run := fun x => g_w_heldTurnS x.1 x.2.1 }
set_option maxRecDepth 4000 in
theorem ok_w_heldTurnS : FmOK Try.prog 85 m_w_heldTurnS := @FmOK.made Try.prog E_w_heldTurnS ek_w_heldTurnS 85 Try.f85 (lookL ll_w_heldTurnS) m_w_heldTurnS Try.func85 (by kernel_rfl) lo_w_heldTurnS fun ds out _ hr => by obtain ⟨a, k, ⟨⟩⟩ := ds; exact (ev_w_heldTurnS a k).trans hr

def E_w_heldPose : Tabs := (mkE tab [(85, m_w_heldTurnS)] [])
set_option maxRecDepth 4000 in
theorem ek_w_heldPose : EnvOK Try.prog E_w_heldPose := (mkE_ok tab_ok mixed (AllF.cons ok_w_heldTurnS AllF.nil) AllX.nil)
theorem ev_w_heldPose (a : dPose) (k : Int) : evalF E_w_heldPose noL Try.f38 [.ro true tPose, .ro false (.int .i64)] (.one false (.int .i64)) (a, k, ()) = g_w_heldPose a k := by kernel_rfl
def m_w_heldPose : FM := { ps := [.ro true tPose, .ro false (.int .i64)], res := .one false (.int .i64), run := fun x => g_w_heldPose x.1 x.2.1 }
set_option maxRecDepth 4000 in
theorem ok_w_heldPose : FmOK Try.prog 38 m_w_heldPose := @FmOK.made Try.prog E_w_heldPose ek_w_heldPose 38 Try.f38 noL m_w_heldPose Try.func38 (by kernel_rfl) (Loops.none (by kernel_rfl)) fun ds out _ hr => by obtain ⟨a, k, ⟨⟩⟩ := ds; exact (ev_w_heldPose a k).trans hr

def E_w_FnExactPoseOfNumbers : Tabs := (mkE tab [(16, m_w_toFloat32S), (34, m_s_PoseOfNumbers), (35, m_i_PoseOfNumbers), (36, m_w_eqPose), (18, m_w_eqFloat32S), (38, m_w_heldPose)] [(32, m_w_markFloat32S), (37, m_w_markPose)])
set_option maxRecDepth 4000 in
theorem ek_w_FnExactPoseOfNumbers : EnvOK Try.prog E_w_FnExactPoseOfNumbers := (mkE_ok tab_ok mixed (AllF.cons ok_w_toFloat32S (AllF.cons ok_s_PoseOfNumbers (AllF.cons ok_i_PoseOfNumbers (AllF.cons ok_w_eqPose (AllF.cons ok_w_eqFloat32S (AllF.cons ok_w_heldPose AllF.nil)))))) (AllX.cons ok_w_markFloat32S (AllX.cons ok_w_markPose AllX.nil)))
theorem ev_w_FnExactPoseOfNumbers (aList : (List Nat)) : evalF E_w_FnExactPoseOfNumbers noL Try.f7 [.ro false (.slice (.flt .f32))] (.one false .bool) (aList, ()) = g_w_FnExactPoseOfNumbers aList := by kernel_rfl
def m_w_FnExactPoseOfNumbers : FM := { ps := [.ro false (.slice (.flt .f32))], res := .one false .bool, run := fun x => g_w_FnExactPoseOfNumbers x.1 }
set_option maxRecDepth 4000 in
theorem ok_w_FnExactPoseOfNumbers : FmOK Try.prog 7 m_w_FnExactPoseOfNumbers := @FmOK.made Try.prog E_w_FnExactPoseOfNumbers ek_w_FnExactPoseOfNumbers 7 Try.f7 noL m_w_FnExactPoseOfNumbers Try.func7 (by kernel_rfl) (Loops.none (by kernel_rfl)) fun ds out _ hr => by obtain ⟨aList, ⟨⟩⟩ := ds; exact (ev_w_FnExactPoseOfNumbers aList).trans hr

def E_w_szBoolS : Tabs := (mkE tab [] [])
set_option maxRecDepth 4000 in
theorem ek_w_szBoolS : EnvOK Try.prog E_w_szBoolS := (mkE_ok tab_ok mixed AllF.nil AllX.nil)
theorem ev_w_szBoolS (a : (List Bool)) (left : Int) : evalF E_w_szBoolS noL Try.f86 [.ro false (.slice .bool), .ro false (.int .i64)] (.one false (.int .i64)) (a, left, ()) = g_w_szBoolS a left := by kernel_rfl
def m_w_szBoolS : FM := { ps := [.ro false (.slice .bool), .ro false (.int .i64)], res := .one false (.int .i64), run := fun x => some (t_w_szBoolS x.1 x.2.1) }
set_option maxRecDepth 4000 in
theorem ok_w_szBoolS : FmOK Try.prog 86 m_w_szBoolS := @FmOK.made Try.prog E_w_szBoolS ek_w_szBoolS 86 Try.f86 noL m_w_szBoolS Try.func86 (by kernel_rfl) (Loops.none (by kernel_rfl)) fun ds out _ hr => by obtain ⟨a, left, ⟨⟩⟩ := ds; exact (ev_w_szBoolS a left).trans ((q_w_szBoolS a left).trans hr)

def E_w_szFloat32S : Tabs := (mkE tab [] [])
set_option maxRecDepth 4000 in
theorem ek_w_szFloat32S : EnvOK Try.prog E_w_szFloat32S := (mkE_ok tab_ok mixed AllF.nil AllX.nil)
theorem ev_w_szFloat32S (a : (List Nat)) (left : Int) : evalF E_w_szFloat32S noL Try.f87 [.ro false (.slice (.flt .f32)), .ro false (.int .i64)] (.one false (.int .i64)) (a, left, ()) = g_w_szFloat32S a left := by kernel_rfl
def m_w_szFloat32S : FM := { ps := [.ro false (.slice (.flt .f32)), .ro false (.int .i64)], res := .one false (.int .i64), run := fun x => some (t_w_szFloat32S x.1 x.2.1) }
set_option maxRecDepth 4000 in
theorem ok_w_szFloat32S : FmOK Try.prog 87 m_w_szFloat32S := @FmOK.made Try.prog E_w_szFloat32S ek_w_szFloat32S 87 Try.f87 noL m_w_szFloat32S Try.func87 (by kernel_rfl) (Loops.none (by kernel_rfl)) fun ds out _ hr => by obtain ⟨a, left, ⟨⟩⟩ := ds; exact (ev_w_szFloat32S a left).trans ((q_w_szFloat32S a left).trans hr)

def E_w_szString : Tabs := (mkE tab [(19, m_w_szVectorS), (86, m_w_szBoolS), (87, m_w_szFloat32S)] [])
set_option maxRecDepth 4000 in
theorem ek_w_szString : EnvOK Try.prog E_w_szString := (mkE_ok tab_ok mixed (AllF.cons ok_w_szVectorS (AllF.cons ok_w_szBoolS (AllF.cons ok_w_szFloat32S AllF.nil))) AllX.nil)
theorem ev_w_szString (a : dString) (left : Int) : evalF E_w_szString noL Try.f39 [.ro true tString, .ro false (.int .i64)] (.one false (.int .i64)) (a, left, ()) = g_w_szString a left := by kernel_rfl
def m_w_szString : FM := { ps := [.ro true tString, .ro false (.int .i64)], res := .one false (.int .i64), run := fun x => some (t_w_szString x.1 x.2.1) }
set_option maxRecDepth 4000 in
theorem ok_w_szString : FmOK Try.prog 39 m_w_szString := @FmOK.made Try.prog E_w_szString ek_w_szString 39 Try.f39 noL m_w_szString Try.func39 (by kernel_rfl) (Loops.none (by kernel_rfl)) fun ds out _ hr => by obtain ⟨a, left, ⟨⟩⟩ := ds; exact (ev_w_szString a left).trans ((q_w_szString a left).trans hr)

def E_w_toBoolS : Tabs := (mkE tab [] [])
set_option maxRecDepth 4000 in
theorem ek_w_toBoolS : EnvOK Try.prog E_w_toBoolS := (mkE_ok tab_ok mixed AllF.nil AllX.nil)
def lm_L_w_toBoolS_1 : LM := { mat := [], head := { slots := [(0, .dat false (.slice .bool)), (3, .cst (.sl (.row 0))), (4, .dat false (.int .i64))], blks := [.row false .bool] }, out := { slots := [(3, .cst (.sl (.row 0)))], blks := [.row false .bool] }, ex := 0, rets := false, run := iter L_w_toBoolS_1 fuel }
def ll_w_toBoolS : List (Nat × LP) := [(3, .lm lm_L_w_toBoolS_1)]
theorem rd_L_w_toBoolS_1 (rec' : ((List Bool) × Int × Unit) × ((List Bool) × Unit) → Option ((Unit) × ((List Bool) × Unit))) (a : (List Bool)) (i : Int) (r0 : (List Bool)) : round E_w_toBoolS (lookL ll_w_toBoolS) lm_L_w_toBoolS_1 22 (loopAt Try.f89 0) rec' ((a, i, ()), (r0, ())) = L_w_toBoolS_1 rec' ((a, i, ()), (r0, ())) := by kernel_rfl
theorem lo_w_toBoolS : Loops E_w_toBoolS (lookL ll_w_toBoolS) Try.f89 := Loops.list (by kernel_rfl) (by kernel_rfl) ⟨LoopOK.iter (step := L_w_toBoolS_1) (N := fun _ => fuel) (fun rec' x => by obtain ⟨⟨a, i, ⟨⟩⟩, ⟨r0, ⟨⟩⟩⟩ := x; exact rd_L_w_toBoolS_1 rec' a i r0) fun _ => rfl, trivial⟩
theorem ev_w_toBoolS (a : (List Bool)) : evalF E_w_toBoolS (lookL ll_w_toBoolS) Try.f89 [.ro false (.slice .bool)] (.one false (.slice .bool)) (a, ()) = g_w_toBoolS a := by kernel_rfl
def m_w_toBoolS : FM := { ps := [.ro false (.slice .bool)], res := .one false (.slice .bool), run := fun x => g_w_toBoolS x.1 }
set_option maxRecDepth 4000 in
theorem ok_w_toBoolS : FmOK Try.prog 89 m_w_toBoolS := @FmOK.made Try.prog E_w_toBoolS ek_w_toBoolS 89 Try.f89 (lookL ll_w_toBoolS) m_w_toBoolS Try.func89 (by kernel_rfl) lo_w_toBoolS fun ds out _ hr => by obtain ⟨a, ⟨⟩⟩ := ds; exact (ev_w_toBoolS a).trans hr

def E_w_toString : Tabs := (mkE tab [(21, m_w_toVectorS), (89, m_w_toBoolS), (16, m_w_toFloat32S), (67, m_w_toVector)] [])
set_option maxRecDepth 4000 in
theorem ek_w_toString : EnvOK Try.prog E_w_toString := (mkE_ok tab_ok mixed (AllF.cons ok_w_toVectorS (AllF.cons ok_w_toBoolS (AllF.cons ok_w_toFloat32S (AllF.cons ok_w_toVector AllF.nil)))) AllX.nil)
theorem ev_w_toString (a : dString) : evalF E_w_toString noL Try.f41 [.ro true tString] (.one true tString) (a, ()) = g_w_toString a := by kernel_rfl
def m_w_toString : FM := { ps := [.ro true tString], res := .one true tString, run := fun x => g_w_toString x.1 }
set_option maxRecDepth 4000 in
theorem ok_w_toString : FmOK Try.prog 41 m_w_toString := @FmOK.made Try.prog E_w_toString ek_w_toString 41 Try.f41 noL m_w_toString Try.func41 (by kernel_rfl) (Loops.none (by kernel_rfl)) fun ds out _ hr => by obtain ⟨a, ⟨⟩⟩ := ds; exact (ev_w_toString a).trans hr

def E_s_l04Points : Tabs := (mkE tab [(77, m_s_l00In)] [])
set_option maxRecDepth 4000 in
theorem ek_s_l04Points : EnvOK Try.prog E_s_l04Points := (mkE_ok tab_ok mixed (AllF.cons ok_s_l00In AllF.nil) AllX.nil)
theorem ev_s_l04Points (points : (List dVec)) : evalF E_s_l04Points noL Try.f123 [.ro false (.slice tVec)] (.one false .bool) (points, ()) = g_s_l04Points points := by kernel_rfl
def m_s_l04Points : FM := { ps := [.ro false (.slice tVec)], res := .one false .bool, run := fun x => some (t_s_l04Points x.1) }
set_option maxRecDepth 4000 in
theorem ok_s_l04Points : FmOK Try.prog 123 m_s_l04Points := @FmOK.made Try.prog E_s_l04Points ek_s_l04Points 123 Try.f123 noL m_s_l04Points Try.func123 (by kernel_rfl) (Loops.none (by kernel_rfl)) fun ds out _ hr => by obtain ⟨points, ⟨⟩⟩ := ds; exact (ev_s_l04Points points).trans ((q_s_l04Points points).trans hr)

def E_s_l08Is : Tabs := (mkE tab [(123, m_s_l04Points), (77, m_s_l00In)] [])
set_option maxRecDepth 4000 in
theorem ek_s_l08Is : EnvOK Try.prog E_s_l08Is := (mkE_ok tab_ok mixed (AllF.cons ok_s_l04Points (AllF.cons ok_s_l00In AllF.nil)) AllX.nil)
theorem ev_s_l08Is (s : dString) : evalF E_s_l08Is noL Try.f88 [.rptr tString] (.one false .bool) (s, ()) = g_s_l08Is s := by kernel_rfl
def m_s_l08Is : FM := { ps := [.rptr tString], res := .one false .bool, run := fun x => some (t_s_l08Is x.1) }
set_option maxRecDepth 4000 in
theorem ok_s_l08Is : FmOK Try.prog 88 m_s_l08Is := @FmOK.made Try.prog E_s_l08Is ek_s_l08Is 88 Try.f88 noL m_s_l08Is Try.func88 (by kernel_rfl) (Loops.none (by kernel_rfl)) fun ds out _ hr => by obtain ⟨s, ⟨⟩⟩ := ds; exact (ev_s_l08Is s).trans ((q_s_l08Is s).trans hr)

def E_s_ValidString : Tabs := (mkE tab [(88, m_s_l08Is)] [])
set_option maxRecDepth 4000 in
theorem ek_s_ValidString : EnvOK Try.prog E_s_ValidString := (mkE_ok tab_ok mixed (AllF.cons ok_s_l08Is AllF.nil) AllX.nil)
theorem ev_s_ValidString (s : dString) : evalF E_s_ValidString noL Try.f40 [.ro true tString] (.one false .bool) (s, ()) = g_s_ValidString s := by kernel_rfl
def m_s_ValidString : FM := { ps := [.ro true tString], res := .one false .bool, run := fun x => some (t_s_ValidString x.1) }
set_option maxRecDepth 4000 in
theorem ok_s_ValidString : FmOK Try.prog 40 m_s_ValidString := @FmOK.made Try.prog E_s_ValidString ek_s_ValidString 40 Try.f40 noL m_s_ValidString Try.func40 (by kernel_rfl) (Loops.none (by kernel_rfl)) fun ds out _ hr => by obtain ⟨s, ⟨⟩⟩ := ds; exact (ev_s_ValidString s).trans ((q_s_ValidString s).trans hr)

def E_i_arePoints : Tabs := (mkE tab [] [])
set_option maxRecDepth 4000 in
theorem ek_i_arePoints : EnvOK Try.prog E_i_arePoints := (mkE_ok tab_ok mixed AllF.nil AllX.nil)
theorem ev_i_arePoints (points : (List dVec)) : evalF E_i_arePoints noL Try.f90 [.ro false (.slice tVec)] (.one false .bool) (points, ()) = g_i_arePoints points := by kernel_rfl
def m_i_arePoints : FM := { ps := [.ro false (.slice tVec)], res := .one false .bool, run := fun x => some (t_i_arePoints x.1) }
set_option maxRecDepth 4000 in
theorem ok_i_arePoints : FmOK Try.prog 90 m_i_arePoints := @FmOK.made Try.prog E_i_arePoints ek_i_arePoints 90 Try.f90 noL m_i_arePoints Try.func90 (by kernel_rfl) (Loops.none (by kernel_rfl)) fun ds out _ hr => by obtain ⟨points, ⟨⟩⟩ := ds; exact (ev_i_arePoints points).trans ((q_i_arePoints points).trans hr)

def E_i_ValidString : Tabs := (mkE tab [(90, m_i_arePoints)] [])
set_option maxRecDepth 4000 in
theorem ek_i_ValidString : EnvOK Try.prog E_i_ValidString := (mkE_ok tab_ok mixed (AllF.cons ok_i_arePoints AllF.nil) AllX.nil)
theorem ev_i_ValidString (s : dString) : evalF E_i_ValidString noL Try.f42 [.ro true tString] (.one false .bool) (s, ()) = g_i_ValidString s := by kernel_rfl
def m_i_ValidString : FM := { ps := [.ro true tString], res := .one false .bool, run := fun x => some (t_i_ValidString x.1) }
set_option maxRecDepth 4000 in
theorem ok_i_ValidString : FmOK Try.prog 42 m_i_ValidString := @FmOK.made Try.prog E_i_ValidString ek_i_ValidString 42 Try.f42 noL m_i_ValidString Try.func42 (by kernel_rfl) (Loops.none (by kernel_rfl)) fun ds out _ hr => by obtain ⟨s, ⟨⟩⟩ := ds; exact (ev_i_ValidString s).trans ((q_i_ValidString s).trans hr)

def E_w_eqBoolS : Tabs := (mkE tab [] [])
set_option maxRecDepth 4000 in
theorem ek_w_eqBoolS : EnvOK Try.prog E_w_eqBoolS := (mkE_ok tab_ok mixed AllF.nil AllX.nil)
def lm_L_w_eqBoolS_1 : LM := { mat := [], head := { slots := [(0, .dat false (.slice .bool)), (1, .dat false (.slice .bool)), (4, .dat false .bool), (5, .dat false (.int .i64))], blks := [] }, out := { slots := [(4, .dat false .bool)], blks := [] }, ex := 0, rets := true, run := iter L_w_eqBoolS_1 fuel }
def ll_w_eqBoolS : List (Nat × LP) := [(4, .lm lm_L_w_eqBoolS_1)]
theorem rd_L_w_eqBoolS_1 (rec' : ((List Bool) × (List Bool) × Bool × Int × Unit) × (Unit) → Option (Bool × ((Bool × Unit) × (Unit)))) (a : (List Bool)) (b : (List Bool)) (t4 : Bool) (i : Int) : round E_w_eqBoolS (lookL ll_w_eqBoolS) lm_L_w_eqBoolS_1 26 (loopAt Try.f91 0) rec' ((a, b, t4, i, ()), (())) = L_w_eqBoolS_1 rec' ((a, b, t4, i, ()), (())) := by kernel_rfl
theorem lo_w_eqBoolS : Loops E_w_eqBoolS (lookL ll_w_eqBoolS) Try.f91 := Loops.list (by kernel_rfl) (by kernel_rfl) ⟨LoopOK.iter (step := L_w_eqBoolS_1) (N := fun _ => fuel) (fun rec' x => by obtain ⟨⟨a, b, t4, i, ⟨⟩⟩, ⟨⟨⟩⟩⟩ := x; exact rd_L_w_eqBoolS_1 rec' a b t4 i) fun _ => rfl, trivial⟩
theorem ev_w_eqBoolS (a : (List Bool)) (b : (List Bool)) : evalF E_w_eqBoolS (lookL ll_w_eqBoolS) Try.f91 [.ro false (.slice .bool), .ro false (.slice .bool)] (.one false .bool) (a, b, ()) = g_w_eqBoolS a b := by kernel_rfl
def m_w_eqBoolS : FM := { ps := [.ro false (.slice .bool), .ro false (.slice .bool)], res := .one false .bool, run := fun x => g_w_eqBoolS x.1 x.2.1 }
set_option maxRecDepth 4000 in
theorem ok_w_eqBoolS : FmOK Try.prog 91 m_w_eqBoolS := @FmOK.made Try.prog E_w_eqBoolS ek_w_eqBoolS 91 Try.f91 (lookL ll_w_eqBoolS) m_w_eqBoolS Try.func91 (by kernel_rfl) lo_w_eqBoolS fun ds out _ hr => by obtain ⟨a, b, ⟨⟩⟩ := ds; exact (ev_w_eqBoolS a b).trans hr

def E_w_eqString : Tabs := (mkE tab [(24, m_w_eqVectorS), (91, m_w_eqBoolS), (18, m_w_eqFloat32S), (23, m_w_eqVector), (46, m_w_sameFloat)] [])
set_option maxRecDepth 4000 in
theorem ek_w_eqString : EnvOK Try.prog E_w_eqString := (mkE_ok tab_ok mixed (AllF.cons ok_w_eqVectorS (AllF.cons ok_w_eqBoolS (AllF.cons ok_w_eqFloat32S (AllF.cons ok_w_eqVector (AllF.cons ok_w_sameFloat AllF.nil))))) AllX.nil)
theorem ev_w_eqString (a : dString) (b : dString) : evalF E_w_eqString noL Try.f43 [.ro true tString, .ro true tString] (.one false .bool) (a, b, ()) = g_w_eqString a b := by kernel_rfl
def m_w_eqString : FM := { ps := [.ro true tString, .ro true tString], res := .one false .bool, run := fun x => g_w_eqString x.1 x.2.1 }
set_option maxRecDepth 4000 in
theorem ok_w_eqString : FmOK Try.prog 43 m_w_eqString := @FmOK.made Try.prog E_w_eqString ek_w_eqString 43 Try.f43 noL m_w_eqString Try.func43 (by kernel_rfl) (Loops.none (by kernel_rfl)) fun ds out _ hr => by obtain ⟨a, b, ⟨⟩⟩ := ds; exact (ev_w_eqString a b).trans hr

def E_w_FnExactValidString : Tabs := (mkE tab [(39, m_w_szString), (41, m_w_toString), (40, m_s_ValidString), (42, m_i_ValidString), (43, m_w_eqString)] [])
set_option maxRecDepth 4000 in
theorem ek_w_FnExactValidString : EnvOK Try.prog E_w_FnExactValidString := (mkE_ok tab_ok mixed (AllF.cons ok_w_szString (AllF.cons ok_w_toString (AllF.cons ok_s_ValidString (AllF.cons ok_i_ValidString (AllF.cons ok_w_eqString AllF.nil))))) AllX.nil)
theorem ev_w_FnExactValidString (aS : dString) : evalF E_w_FnExactValidString noL Try.f8 [.ro true tString] (.one false .bool) (aS, ()) = g_w_FnExactValidString aS := by kernel_rfl
def m_w_FnExactValidString : FM := { ps := [.ro true tString], res := .one false .bool, run := fun x => g_w_FnExactValidString x.1 }
set_option maxRecDepth 4000 in
theorem ok_w_FnExactValidString : FmOK Try.prog 8 m_w_FnExactValidString := @FmOK.made Try.prog E_w_FnExactValidString ek_w_FnExactValidString 8 Try.f8 noL m_w_FnExactValidString Try.func8 (by kernel_rfl) (Loops.none (by kernel_rfl)) fun ds out _ hr => by obtain ⟨aS, ⟨⟩⟩ := ds; exact (ev_w_FnExactValidString aS).trans hr

def E_s_l01Less : Tabs := (mkE tab [] [])
set_option maxRecDepth 4000 in
theorem ek_s_l01Less : EnvOK Try.prog E_s_l01Less := (mkE_ok tab_ok mixed AllF.nil AllX.nil)
theorem ev_s_l01Less (a : dVec) (b : dVec) : evalF E_s_l01Less noL Try.f93 [.ro true tVec, .ro true tVec] (.one true tVec) (a, b, ()) = g_s_l01Less a b := by kernel_rfl
def m_s_l01Less : FM := { ps := [.ro true tVec, .ro true tVec], res := .one true tVec, run := fun x => some (t_s_l01Less x.1 x.2.1) }
set_option maxRecDepth 4000 in
theorem ok_s_l01Less : FmOK Try.prog 93 m_s_l01Less := @FmOK.made Try.prog E_s_l01Less ek_s_l01Less 93 Try.f93 noL m_s_l01Less Try.func93 (by kernel_rfl) (Loops.none (by kernel_rfl)) fun ds out _ hr => by obtain ⟨a, b, ⟨⟩⟩ := ds; exact (ev_s_l01Less a b).trans ((q_s_l01Less a b).trans hr)

def E_s_l01Inner : Tabs := (mkE tab [] [])
set_option maxRecDepth 4000 in
theorem ek_s_l01Inner : EnvOK Try.prog E_s_l01Inner := (mkE_ok tab_ok mixed AllF.nil AllX.nil)
theorem ev_s_l01Inner (a : dVec) (b : dVec) : evalF E_s_l01Inner noL Try.f125 [.ro true tVec, .ro true tVec] (.one false (.flt .f32)) (a, b, ()) = g_s_l01Inner a b := by kernel_rfl
def m_s_l01Inner : FM := { ps := [.ro true tVec, .ro true tVec], res := .one false (.flt .f32), run := fun x => some (t_s_l01Inner x.1 x.2.1) }
set_option maxRecDepth 4000 in
theorem ok_s_l01Inner : FmOK Try.prog 125 m_s_l01Inner := @FmOK.made Try.prog E_s_l01Inner ek_s_l01Inner 125 Try.f125 noL m_s_l01Inner Try.func125 (by kernel_rfl) (Loops.none (by kernel_rfl)) fun ds out _ hr => by obtain ⟨a, b, ⟨⟩⟩ := ds; exact (ev_s_l01Inner a b).trans ((q_s_l01Inner a b).trans hr)

set_option maxRecDepth 4000 in
theorem ok_mathsqrt : FmOK Try.prog 141 m_mathsqrt := FmOK.sqrt Try.func141 (by kernel_rfl) rfl (by kernel_rfl) (by kernel_rfl)

def E_math_Sqrt : Tabs := (mkE tab [(141, m_mathsqrt)] [])
set_option maxRecDepth 4000 in
theorem ek_math_Sqrt : EnvOK Try.prog E_math_Sqrt := (mkE_ok tab_ok mixed (AllF.cons ok_mathsqrt AllF.nil) AllX.nil)
theorem ev_math_Sqrt (xx : Nat) : evalF E_math_Sqrt noL Try.f136 [.ro false (.flt .f64)] (.one false (.flt .f64)) (xx, ()) = g_math_Sqrt xx := by kernel_rfl
def m_math_Sqrt : FM := { ps := [.ro false (.flt .f64)], res := .one false (.flt .f64), run := fun x => some (t_math_Sqrt x.1) }
set_option maxRecDepth 4000 in
theorem ok_math_Sqrt : FmOK Try.prog 136 m_math_Sqrt := @FmOK.made Try.prog E_math_Sqrt ek_math_Sqrt 136 Try.f136 noL m_math_Sqrt Try.func136 (by kernel_rfl) (Loops.none (by kernel_rfl)) fun ds out _ hr => by obtain ⟨xx, ⟨⟩⟩ := ds; exact (ev_math_Sqrt xx).trans ((q_math_Sqrt xx).trans hr)

def E_s_l01Narrow : Tabs := (mkE tab [] [])
set_option maxRecDepth 4000 in
theorem ek_s_l01Narrow : EnvOK Try.prog E_s_l01Narrow := (mkE_ok tab_ok mixed AllF.nil AllX.nil)
theorem ev_s_l01Narrow (xx : Nat) : evalF E_s_l01Narrow noL Try.f135 [.ro false (.flt .f64)] (.one false (.flt .f32)) (xx, ()) = g_s_l01Narrow xx := by kernel_rfl
def m_s_l01Narrow : FM := { ps := [.ro false (.flt .f64)], res := .one false (.flt .f32), run := fun x => g_s_l01Narrow x.1 }
set_option maxRecDepth 4000 in
theorem ok_s_l01Narrow : FmOK Try.prog 135 m_s_l01Narrow := @FmOK.made Try.prog E_s_l01Narrow ek_s_l01Narrow 135 Try.f135 noL m_s_l01Narrow Try.func135 (by kernel_rfl) (Loops.none (by kernel_rfl)) fun ds out _ hr => by obtain ⟨xx, ⟨⟩⟩ := ds; exact (ev_s_l01Narrow xx).trans hr

def E_s_l01Sqrt : Tabs := (mkE tab [(136, m_math_Sqrt), (135, m_s_l01Narrow)] [])
set_option maxRecDepth 4000 in
theorem ek_s_l01Sqrt : EnvOK Try.prog E_s_l01Sqrt := (mkE_ok tab_ok mixed (AllF.cons ok_math_Sqrt (AllF.cons ok_s_l01Narrow AllF.nil)) AllX.nil)
theorem ev_s_l01Sqrt (xx : Nat) : evalF E_s_l01Sqrt noL Try.f124 [.ro false (.flt .f32)] (.one false (.flt .f32)) (xx, ()) = g_s_l01Sqrt xx := by kernel_rfl
def m_s_l01Sqrt : FM := { ps := [.ro false (.flt .f32)], res := .one false (.flt .f32), run := fun x => g_s_l01Sqrt x.1 }
set_option maxRecDepth 4000 in
theorem ok_s_l01Sqrt : FmOK Try.prog 124 m_s_l01Sqrt := @FmOK.made Try.prog E_s_l01Sqrt ek_s_l01Sqrt 124 Try.f124 noL m_s_l01Sqrt Try.func124 (by kernel_rfl) (Loops.none (by kernel_rfl)) fun ds out _ hr => by obtain ⟨xx, ⟨⟩⟩ := ds; exact (ev_s_l01Sqrt xx).trans hr

def E_s_l01Long : Tabs := (mkE tab [(125, m_s_l01Inner), (124, m_s_l01Sqrt)] [])
set_option maxRecDepth 4000 in
theorem ek_s_l01Long : EnvOK Try.prog E_s_l01Long := (mkE_ok tab_ok mixed (AllF.cons ok_s_l01Inner (AllF.cons ok_s_l01Sqrt AllF.nil)) AllX.nil)
theorem ev_s_l01Long (v : dVec) : evalF E_s_l01Long noL Try.f92 [.ro true tVec] (.one false (.flt .f32)) (v, ()) = g_s_l01Long v := by kernel_rfl
def m_s_l01Long : FM := { ps := [.ro true tVec], res := .one false (.flt .f32), run := fun x => g_s_l01Long x.1 }
set_option maxRecDepth 4000 in
theorem ok_s_l01Long : FmOK Try.prog 92 m_s_l01Long := @FmOK.made Try.prog E_s_l01Long ek_s_l01Long 92 Try.f92 noL m_s_l01Long Try.func92 (by kernel_rfl) (Loops.none (by kernel_rfl)) fun ds out _ hr => by obtain ⟨v, ⟨⟩⟩ := ds; exact (ev_s_l01Long v).trans hr

def E_s_FarthestMove : Tabs := (mkE tab [(93, m_s_l01Less), (92, m_s_l01Long)] [])
set_option maxRecDepth 4000 in
theorem ek_s_FarthestMove : EnvOK Try.prog E_s_FarthestMove := (mkE_ok tab_ok mixed (AllF.cons ok_s_l01Less (AllF.cons ok_s_l01Long AllF.nil)) AllX.nil)
def lm_L_s_FarthestMove_1 : LM := { mat := [], head := { slots := [(0, .dat false (.slice tVec)), (1, .dat false (.slice tVec)), (7, .dat false (.int .i64)), (8, .dat false (.flt .f32)), (35, .dat false (.int .i64)), (36, .dat false (.int .i64))], blks := [] }, out := { slots := [(7, .dat false (.int .i64)), (8, .dat false (.flt .f32))], blks := [] }, ex := 0, rets := false, run := iter L_s_FarthestMove_1 fuel }
def ll_s_FarthestMove : List (Nat × LP) := [(6, .lm lm_L_s_FarthestMove_1)]
theorem rd_L_s_FarthestMove_1 (rec' : ((List dVec) × (List dVec) × Int × Nat × Int × Int × Unit) × (Unit) → Option ((Int × Nat × Unit) × (Unit))) (a : (List dVec)) (b : (List dVec)) (best : Int) (most : Nat) (t35 : Int) (t36 : Int) : round E_s_FarthestMove (lookL ll_s_FarthestMove) lm_L_s_FarthestMove_1 67 (loopAt Try.f44 0) rec' ((a, b, best, most, t35, t36, ()), (())) = L_s_FarthestMove_1 rec' ((a, b, best, most, t35, t36, ()), (())) := by kernel_rfl
theorem lo_s_FarthestMove : Loops E_s_FarthestMove (lookL ll_s_FarthestMove) Try.f44 := Loops.list (by kernel_rfl) (by kernel_rfl) ⟨LoopOK.iter (step := L_s_FarthestMove_1) (N := fun _ => fuel) (fun rec' x => by obtain ⟨⟨a, b, best, most, t35, t36, ⟨⟩⟩, ⟨⟨⟩⟩⟩ := x; exact rd_L_s_FarthestMove_1 rec' a b best most t35 t36) fun _ => rfl, trivial⟩
theorem ev_s_FarthestMove (a : (List dVec)) (b : (List dVec)) : evalF E_s_FarthestMove (lookL ll_s_FarthestMove) Try.f44 [.ro false (.slice tVec), .ro false (.slice tVec)] (.tup [(false, (.int .i64)), (false, (.flt .f32)), (false, .bool)]) (a, b, ()) = g_s_FarthestMove a b := by kernel_rfl
def m_s_FarthestMove : FM := { ps := [.ro false (.slice tVec), .ro false (.slice tVec)], res := .tup [(false, (.int .i64)), (false, (.flt .f32)), (false, .bool)], run := fun x => g_s_FarthestMove x.1 x.2.1 }
set_option maxRecDepth 4000 in
theorem ok_s_FarthestMove : FmOK Try.prog 44 m_s_FarthestMove := @FmOK.made Try.prog E_s_FarthestMove ek_s_FarthestMove 44 Try.f44 (lookL ll_s_FarthestMove) m_s_FarthestMove Try.func44 (by kernel_rfl) lo_s_FarthestMove fun ds out _ hr => by obtain ⟨a, b, ⟨⟩⟩ := ds; exact (ev_s_FarthestMove a b).trans hr

def E_i_LessVectors : Tabs := (mkE tab [] [])
set_option maxRecDepth 4000 in
theorem ek_i_LessVectors : EnvOK Try.prog E_i_LessVectors := (mkE_ok tab_ok mixed AllF.nil AllX.nil)
theorem ev_i_LessVectors (a : dVec) (b : dVec) : evalF E_i_LessVectors noL Try.f95 [.ro true tVec, .ro true tVec] (.one true tVec) (a, b, ()) = g_i_LessVectors a b := by kernel_rfl
def m_i_LessVectors : FM := { ps := [.ro true tVec, .ro true tVec], res := .one true tVec, run := fun x => some (t_i_LessVectors x.1 x.2.1) }
set_option maxRecDepth 4000 in
theorem ok_i_LessVectors : FmOK Try.prog 95 m_i_LessVectors := @FmOK.made Try.prog E_i_LessVectors ek_i_LessVectors 95 Try.f95 noL m_i_LessVectors Try.func95 (by kernel_rfl) (Loops.none (by kernel_rfl)) fun ds out _ hr => by obtain ⟨a, b, ⟨⟩⟩ := ds; exact (ev_i_LessVectors a b).trans ((q_i_LessVectors a b).trans hr)

def E_i_InnerOf : Tabs := (mkE tab [] [])
set_option maxRecDepth 4000 in
theorem ek_i_InnerOf : EnvOK Try.prog E_i_InnerOf := (mkE_ok tab_ok mixed AllF.nil AllX.nil)
theorem ev_i_InnerOf (a : dVec) (b : dVec) : evalF E_i_InnerOf noL Try.f127 [.ro true tVec, .ro true tVec] (.one false (.flt .f32)) (a, b, ()) = g_i_InnerOf a b := by kernel_rfl
def m_i_InnerOf : FM := { ps := [.ro true tVec, .ro true tVec], res := .one false (.flt .f32), run := fun x => some (t_i_InnerOf x.1 x.2.1) }
set_option maxRecDepth 4000 in
theorem ok_i_InnerOf : FmOK Try.prog 127 m_i_InnerOf := @FmOK.made Try.prog E_i_InnerOf ek_i_InnerOf 127 Try.f127 noL m_i_InnerOf Try.func127 (by kernel_rfl) (Loops.none (by kernel_rfl)) fun ds out _ hr => by obtain ⟨a, b, ⟨⟩⟩ := ds; exact (ev_i_InnerOf a b).trans ((q_i_InnerOf a b).trans hr)

def E_i_RootNumber : Tabs := (mkE tab [(136, m_math_Sqrt)] [])
set_option maxRecDepth 4000 in
theorem ek_i_RootNumber : EnvOK Try.prog E_i_RootNumber := (mkE_ok tab_ok mixed (AllF.cons ok_math_Sqrt AllF.nil) AllX.nil)
theorem ev_i_RootNumber (xx : Nat) : evalF E_i_RootNumber noL Try.f126 [.ro false (.flt .f32)] (.one false (.flt .f32)) (xx, ()) = g_i_RootNumber xx := by kernel_rfl
def m_i_RootNumber : FM := { ps := [.ro false (.flt .f32)], res := .one false (.flt .f32), run := fun x => g_i_RootNumber x.1 }
set_option maxRecDepth 4000 in
theorem ok_i_RootNumber : FmOK Try.prog 126 m_i_RootNumber := @FmOK.made Try.prog E_i_RootNumber ek_i_RootNumber 126 Try.f126 noL m_i_RootNumber Try.func126 (by kernel_rfl) (Loops.none (by kernel_rfl)) fun ds out _ hr => by obtain ⟨xx, ⟨⟩⟩ := ds; exact (ev_i_RootNumber xx).trans hr

def E_i_LongOf : Tabs := (mkE tab [(127, m_i_InnerOf), (126, m_i_RootNumber)] [])
set_option maxRecDepth 4000 in
theorem ek_i_LongOf : EnvOK Try.prog E_i_LongOf := (mkE_ok tab_ok mixed (AllF.cons ok_i_InnerOf (AllF.cons ok_i_RootNumber AllF.nil)) AllX.nil)
theorem ev_i_LongOf (v : dVec) : evalF E_i_LongOf noL Try.f94 [.ro true tVec] (.one false (.flt .f32)) (v, ()) = g_i_LongOf v := by kernel_rfl
def m_i_LongOf : FM := { ps := [.ro true tVec], res := .one false (.flt .f32), run := fun x => g_i_LongOf x.1 }
set_option maxRecDepth 4000 in
theorem ok_i_LongOf : FmOK Try.prog 94 m_i_LongOf := @FmOK.made Try.prog E_i_LongOf ek_i_LongOf 94 Try.f94 noL m_i_LongOf Try.func94 (by kernel_rfl) (Loops.none (by kernel_rfl)) fun ds out _ hr => by obtain ⟨v, ⟨⟩⟩ := ds; exact (ev_i_LongOf v).trans hr

def E_i_FarthestMove : Tabs := (mkE tab [(95, m_i_LessVectors), (94, m_i_LongOf)] [])
set_option maxRecDepth 4000 in
theorem ek_i_FarthestMove : EnvOK Try.prog E_i_FarthestMove := (mkE_ok tab_ok mixed (AllF.cons ok_i_LessVectors (AllF.cons ok_i_LongOf AllF.nil)) AllX.nil)
def lm_L_i_FarthestMove_1 : LM := { mat := [], head := { slots := [(0, .dat false (.slice tVec)), (1, .dat false (.slice tVec)), (7, .dat false (.int .i64)), (8, .dat false (.flt .f32)), (35, .dat false (.int .i64)), (36, .dat false (.int .i64))], blks := [] }, out := { slots := [(7, .dat false (.int .i64)), (8, .dat false (.flt .f32))], blks := [] }, ex := 0, rets := false, run := iter L_i_FarthestMove_1 fuel }
def ll_i_FarthestMove : List (Nat × LP) := [(5, .lm lm_L_i_FarthestMove_1)]
theorem rd_L_i_FarthestMove_1 (rec' : ((List dVec) × (List dVec) × Int × Nat × Int × Int × Unit) × (Unit) → Option ((Int × Nat × Unit) × (Unit))) (a : (List dVec)) (b : (List dVec)) (best : Int) (most : Nat) (t35 : Int) (t36 : Int) : round E_i_FarthestMove (lookL ll_i_FarthestMove) lm_L_i_FarthestMove_1 67 (loopAt Try.f45 0) rec' ((a, b, best, most, t35, t36, ()), (())) = L_i_FarthestMove_1 rec' ((a, b, best, most, t35, t36, ()), (())) := by kernel_rfl
theorem lo_i_FarthestMove : Loops E_i_FarthestMove (lookL ll_i_FarthestMove) Try.f45 := Loops.list (by kernel_rfl) (by kernel_rfl) ⟨LoopOK.iter (step := L_i_FarthestMove_1) (N := fun _ => fuel) (fun rec' x => by obtain ⟨⟨a, b, best, most, t35, t36, ⟨⟩⟩, ⟨⟨⟩⟩⟩ := x; exact rd_L_i_FarthestMove_1 rec' a b best most t35 t36) fun _ => rfl, trivial⟩
theorem ev_i_FarthestMove (a : (List dVec)) (b : (List dVec)) : evalF E_i_FarthestMove (lookL ll_i_FarthestMove) Try.f45 [.ro false (.slice tVec), .ro false (.slice tVec)] (.tup [(false, (.int .i64)), (false, (.flt .f32)), (false, .bool)]) (a, b, ()) = g_i_FarthestMove a b := by kernel_rfl
def m_i_FarthestMove : FM := { ps := [.ro false (.slice tVec), .ro false (.slice tVec)], res := .tup [(false, (.int .i64)), (false, (.flt .f32)), (false, .bool)], run := fun x => g_i_FarthestMove x.1 x.2.1 }
set_option maxRecDepth 4000 in
theorem ok_i_FarthestMove : FmOK Try.prog 45 m_i_FarthestMove := @FmOK.made Try.prog E_i_FarthestMove ek_i_FarthestMove 45 Try.f45 (lookL ll_i_FarthestMove) m_i_FarthestMove Try.func45 (by kernel_rfl) lo_i_FarthestMove fun ds out _ hr => by obtain ⟨a, b, ⟨⟩⟩ := ds; exact (ev_i_FarthestMove a b).trans hr

def E_w_FnExactFarthestMove : Tabs := (mkE tab [(19, m_w_szVectorS), (21, m_w_toVectorS), (44, m_s_FarthestMove), (45, m_i_FarthestMove), (46, m_w_sameFloat), (24, m_w_eqVectorS)] [])
set_option maxRecDepth 4000 in
theorem ek_w_FnExactFarthestMove : EnvOK Try.prog E_w_FnExactFarthestMove := (mkE_ok tab_ok mixed (AllF.cons ok_w_szVectorS (AllF.cons ok_w_toVectorS (AllF.cons ok_s_FarthestMove (AllF.cons ok_i_FarthestMove (AllF.cons ok_w_sameFloat (AllF.cons ok_w_eqVectorS AllF.nil)))))) AllX.nil)
theorem ev_w_FnExactFarthestMove (aA : (List dVec)) (aB : (List dVec)) : evalF E_w_FnExactFarthestMove noL Try.f9 [.ro false (.slice tVec), .ro false (.slice tVec)] (.one false .bool) (aA, aB, ()) = g_w_FnExactFarthestMove aA aB := by kernel_rfl
def m_w_FnExactFarthestMove : FM := { ps := [.ro false (.slice tVec), .ro false (.slice tVec)], res := .one false .bool, run := fun x => g_w_FnExactFarthestMove x.1 x.2.1 }
set_option maxRecDepth 4000 in
theorem ok_w_FnExactFarthestMove : FmOK Try.prog 9 m_w_FnExactFarthestMove := @FmOK.made Try.prog E_w_FnExactFarthestMove ek_w_FnExactFarthestMove 9 Try.f9 noL m_w_FnExactFarthestMove Try.func9 (by kernel_rfl) (Loops.none (by kernel_rfl)) fun ds out _ hr => by obtain ⟨aA, aB, ⟨⟩⟩ := ds; exact (ev_w_FnExactFarthestMove aA aB).trans hr

def E_w_szTurnS : Tabs := (mkE tab [] [])
set_option maxRecDepth 4000 in
theorem ek_w_szTurnS : EnvOK Try.prog E_w_szTurnS := (mkE_ok tab_ok mixed AllF.nil AllX.nil)
theorem ev_w_szTurnS (a : (List dTurn)) (left : Int) : evalF E_w_szTurnS noL Try.f96 [.ro false (.slice tTurn), .ro false (.int .i64)] (.one false (.int .i64)) (a, left, ()) = g_w_szTurnS a left := by kernel_rfl
def m_w_szTurnS : FM := { ps := [.ro false (.slice tTurn), .ro false (.int .i64)], res := .one false (.int .i64), run := fun x => some (t_w_szTurnS x.1 x.2.1) }
set_option maxRecDepth 4000 in
theorem ok_w_szTurnS : FmOK Try.prog 96 m_w_szTurnS := @FmOK.made Try.prog E_w_szTurnS ek_w_szTurnS 96 Try.f96 noL m_w_szTurnS Try.func96 (by kernel_rfl) (Loops.none (by kernel_rfl)) fun ds out _ hr => by obtain ⟨a, left, ⟨⟩⟩ := ds; exact (ev_w_szTurnS a left).trans ((q_w_szTurnS a left).trans hr)

def E_w_szPose : Tabs := (mkE tab [(96, m_w_szTurnS)] [])
set_option maxRecDepth 4000 in
theorem ek_w_szPose : EnvOK Try.prog E_w_szPose := (mkE_ok tab_ok mixed (AllF.cons ok_w_szTurnS AllF.nil) AllX.nil)
theorem ev_w_szPose (a : dPose) (left : Int) : evalF E_w_szPose noL Try.f47 [.ro true tPose, .ro false (.int .i64)] (.one false (.int .i64)) (a, left, ()) = g_w_szPose a left := by kernel_rfl
def m_w_szPose : FM := { ps := [.ro true tPose, .ro false (.int .i64)], res := .one false (.int .i64), run := fun x => some (t_w_szPose x.1 x.2.1) }
set_option maxRecDepth 4000 in
theorem ok_w_szPose : FmOK Try.prog 47 m_w_szPose := @FmOK.made Try.prog E_w_szPose ek_w_szPose 47 Try.f47 noL m_w_szPose Try.func47 (by kernel_rfl) (Loops.none (by kernel_rfl)) fun ds out _ hr => by obtain ⟨a, left, ⟨⟩⟩ := ds; exact (ev_w_szPose a left).trans ((q_w_szPose a left).trans hr)

def E_w_toTurn : Tabs := (mkE tab [] [])
set_option maxRecDepth 4000 in
theorem ek_w_toTurn : EnvOK Try.prog E_w_toTurn := (mkE_ok tab_ok mixed AllF.nil AllX.nil)
theorem ev_w_toTurn (a : dTurn) : evalF E_w_toTurn noL Try.f129 [.ro true tTurn] (.one true tTurn) (a, ()) = g_w_toTurn a := by kernel_rfl
def m_w_toTurn : FM := { ps := [.ro true tTurn], res := .one true tTurn, run := fun x => some (t_w_toTurn x.1) }
set_option maxRecDepth 4000 in
theorem ok_w_toTurn : FmOK Try.prog 129 m_w_toTurn := @FmOK.made Try.prog E_w_toTurn ek_w_toTurn 129 Try.f129 noL m_w_toTurn Try.func129 (by kernel_rfl) (Loops.none (by kernel_rfl)) fun ds out _ hr => by obtain ⟨a, ⟨⟩⟩ := ds; exact (ev_w_toTurn a).trans ((q_w_toTurn a).trans hr)

def E_w_toTurnS : Tabs := (mkE tab [(129, m_w_toTurn)] [])
set_option maxRecDepth 4000 in
theorem ek_w_toTurnS : EnvOK Try.prog E_w_toTurnS := (mkE_ok tab_ok mixed (AllF.cons ok_w_toTurn AllF.nil) AllX.nil)
def lm_L_w_toTurnS_1 : LM := { mat := [], head := { slots := [(0, .dat false (.slice tTurn)), (3, .cst (.sl (.row 0))), (4, .dat false (.int .i64))], blks := [.row false tTurn] }, out := { slots := [(3, .cst (.sl (.row 0)))], blks := [.row false tTurn] }, ex := 0, rets := false, run := iter L_w_toTurnS_1 fuel }
def ll_w_toTurnS : List (Nat × LP) := [(3, .lm lm_L_w_toTurnS_1)]
theorem rd_L_w_toTurnS_1 (rec' : ((List dTurn) × Int × Unit) × ((List dTurn) × Unit) → Option ((Unit) × ((List dTurn) × Unit))) (a : (List dTurn)) (i : Int) (r0 : (List dTurn)) : round E_w_toTurnS (lookL ll_w_toTurnS) lm_L_w_toTurnS_1 23 (loopAt Try.f99 0) rec' ((a, i, ()), (r0, ())) = L_w_toTurnS_1 rec' ((a, i, ()), (r0, ())) := by kernel_rfl
theorem lo_w_toTurnS : Loops E_w_toTurnS (lookL ll_w_toTurnS) Try.f99 := Loops.list (by kernel_rfl) (by kernel_rfl) ⟨LoopOK.iter (step := L_w_toTurnS_1) (N := fun _ => fuel) (fun rec' x => by obtain ⟨⟨a, i, ⟨⟩⟩, ⟨r0, ⟨⟩⟩⟩ := x; exact rd_L_w_toTurnS_1 rec' a i r0) fun _ => rfl, trivial⟩
theorem ev_w_toTurnS (a : (List dTurn)) : evalF E_w_toTurnS (lookL ll_w_toTurnS) Try.f99 [.ro false (.slice tTurn)] (.one false (.slice tTurn)) (a, ()) = g_w_toTurnS a := by kernel_rfl
def m_w_toTurnS : FM := { ps := [.ro false (.slice tTurn)], res := .one false (.slice tTurn), run := fun x => g_w_toTurnS x.1 }
set_option maxRecDepth 4000 in
theorem ok_w_toTurnS : FmOK Try.prog 99 m_w_toTurnS := @FmOK.made Try.prog E_w_toTurnS ek_w_toTurnS 99 Try.f99 (lookL ll_w_toTurnS) m_w_toTurnS Try.func99 (by kernel_rfl) lo_w_toTurnS fun ds out _ hr => by obtain ⟨a, ⟨⟩⟩ := ds; exact (ev_w_toTurnS a).trans hr

def E_w_toPose : Tabs := (mkE tab [(67, m_w_toVector), (99, m_w_toTurnS)] [])
set_option maxRecDepth 4000 in
theorem ek_w_toPose : EnvOK Try.prog E_w_toPose := (mkE_ok tab_ok mixed (AllF.cons ok_w_toVector (AllF.cons ok_w_toTurnS AllF.nil)) AllX.nil)
theorem ev_w_toPose (a : dPose) : evalF E_w_toPose noL Try.f49 [.ro true tPose] (.one true tPose) (a, ()) = g_w_toPose a := by kernel_rfl
def m_w_toPose : FM := { ps := [.ro true tPose], res := .one true tPose, run := fun x => g_w_toPose x.1 }
set_option maxRecDepth 4000 in
theorem ok_w_toPose : FmOK Try.prog 49 m_w_toPose := @FmOK.made Try.prog E_w_toPose ek_w_toPose 49 Try.f49 noL m_w_toPose Try.func49 (by kernel_rfl) (Loops.none (by kernel_rfl)) fun ds out _ hr => by obtain ⟨a, ⟨⟩⟩ := ds; exact (ev_w_toPose a).trans hr

def E_s_l03Few : Tabs := (mkE tab [] [])
set_option maxRecDepth 4000 in
theorem ek_s_l03Few : EnvOK Try.prog E_s_l03Few := (mkE_ok tab_ok mixed AllF.nil AllX.nil)
theorem ev_s_l03Few (p : dPose) : evalF E_s_l03Few noL Try.f97 [.rptr tPose] (.one false .bool) (p, ()) = g_s_l03Few p := by kernel_rfl
def m_s_l03Few : FM := { ps := [.rptr tPose], res := .one false .bool, run := fun x => some (t_s_l03Few x.1) }
set_option maxRecDepth 4000 in
theorem ok_s_l03Few : FmOK Try.prog 97 m_s_l03Few := @FmOK.made Try.prog E_s_l03Few ek_s_l03Few 97 Try.f97 noL m_s_l03Few Try.func97 (by kernel_rfl) (Loops.none (by kernel_rfl)) fun ds out _ hr => by obtain ⟨p, ⟨⟩⟩ := ds; exact (ev_s_l03Few p).trans ((q_s_l03Few p).trans hr)

def E_s_l06List : Tabs := (mkE tab [] [])
set_option maxRecDepth 4000 in
theorem ek_s_l06List : EnvOK Try.prog E_s_l06List := (mkE_ok tab_ok mixed AllF.nil AllX.nil)
theorem ev_s_l06List (t : dTurn) : evalF E_s_l06List noL Try.f128 [.ro true tTurn] (.one false (.slice (.flt .f32))) (t, ()) = g_s_l06List t := by kernel_rfl
def m_s_l06List : FM := { ps := [.ro true tTurn], res := .one false (.slice (.flt .f32)), run := fun x => some (t_s_l06List x.1) }
set_option maxRecDepth 4000 in
theorem ok_s_l06List : FmOK Try.prog 128 m_s_l06List := @FmOK.made Try.prog E_s_l06List ek_s_l06List 128 Try.f128 noL m_s_l06List Try.func128 (by kernel_rfl) (Loops.none (by kernel_rfl)) fun ds out _ hr => by obtain ⟨t, ⟨⟩⟩ := ds; exact (ev_s_l06List t).trans ((q_s_l06List t).trans hr)

def E_s_l10Numbers : Tabs := (mkE tab [(128, m_s_l06List)] [])
set_option maxRecDepth 4000 in
theorem ek_s_l10Numbers : EnvOK Try.prog E_s_l10Numbers := (mkE_ok tab_ok mixed (AllF.cons ok_s_l06List AllF.nil) AllX.nil)
def lm_L_s_l10Numbers_1 : LM := { mat := [], head := { slots := [(0, .dat false (.ref tPose)), (3, .cst (.sl (.row 0))), (4, .dat false (.int .i64))], blks := [.row false (.flt .f32)] }, out := { slots := [(3, .cst (.sl (.row 0)))], blks := [.row false (.flt .f32)] }, ex := 0, rets := false, run := iter L_s_l10Numbers_1 fuel }
def ll_s_l10Numbers : List (Nat × LP) := [(3, .lm lm_L_s_l10Numbers_1)]
theorem rd_L_s_l10Numbers_1 (rec' : (dPose × Int × Unit) × ((List Nat) × Unit) → Option ((Unit) × ((List Nat) × Unit))) (p : dPose) (i : Int) (r0 : (List Nat)) : round E_s_l10Numbers (lookL ll_s_l10Numbers) lm_L_s_l10Numbers_1 41 (loopAt Try.f98 0) rec' ((p, i, ()), (r0, ())) = L_s_l10Numbers_1 rec' ((p, i, ()), (r0, ())) := by kernel_rfl
theorem lo_s_l10Numbers : Loops E_s_l10Numbers (lookL ll_s_l10Numbers) Try.f98 := Loops.list (by kernel_rfl) (by kernel_rfl) ⟨LoopOK.iter (step := L_s_l10Numbers_1) (N := fun _ => fuel) (fun rec' x => by obtain ⟨⟨p, i, ⟨⟩⟩, ⟨r0, ⟨⟩⟩⟩ := x; exact rd_L_s_l10Numbers_1 rec' p i r0) fun _ => rfl, trivial⟩
theorem ev_s_l10Numbers (p : dPose) : evalF E_s_l10Numbers (lookL ll_s_l10Numbers) Try.f98 [.rptr tPose] (.one false (.slice (.flt .f32))) (p, ()) = g_s_l10Numbers p := by kernel_rfl
def m_s_l10Numbers : FM := { ps := [.rptr tPose], res := .one false (.slice (.flt .f32)), run := fun x => g_s_l10Numbers x.1 }
set_option maxRecDepth 4000 in
theorem ok_s_l10Numbers : FmOK Try.prog 98 m_s_l10Numbers := @FmOK.made Try.prog E_s_l10Numbers ek_s_l10Numbers 98 Try.f98 (lookL ll_s_l10Numbers) m_s_l10Numbers Try.func98 (by kernel_rfl) lo_s_l10Numbers fun ds out _ hr => by obtain ⟨p, ⟨⟩⟩ := ds; exact (ev_s_l10Numbers p).trans hr

def E_s_NumbersOfPose : Tabs := (mkE tab [(97, m_s_l03Few), (98, m_s_l10Numbers)] [])
set_option maxRecDepth 4000 in
theorem ek_s_NumbersOfPose : EnvOK Try.prog E_s_NumbersOfPose := (mkE_ok tab_ok mixed (AllF.cons ok_s_l03Few (AllF.cons ok_s_l10Numbers AllF.nil)) AllX.nil)
theorem ev_s_NumbersOfPose (p : dPose) : evalF E_s_NumbersOfPose noL Try.f48 [.ro true tPose] (.tup [(false, (.slice (.flt .f32))), (false, .bool)]) (p, ()) = g_s_NumbersOfPose p := by kernel_rfl
def m_s_NumbersOfPose : FM := { ps := [.ro true tPose], res := .tup [(false, (.slice (.flt .f32))), (false, .bool)], run := fun x => g_s_NumbersOfPose x.1 }
set_option maxRecDepth 4000 in
theorem ok_s_NumbersOfPose : FmOK Try.prog 48 m_s_NumbersOfPose := @FmOK.made Try.prog E_s_NumbersOfPose ek_s_NumbersOfPose 48 Try.f48 noL m_s_NumbersOfPose Try.func48 (by kernel_rfl) (Loops.none (by kernel_rfl)) fun ds out _ hr => by obtain ⟨p, ⟨⟩⟩ := ds; exact (ev_s_NumbersOfPose p).trans hr

def E_i_isPose : Tabs := (mkE tab [] [])
set_option maxRecDepth 4000 in
theorem ek_i_isPose : EnvOK Try.prog E_i_isPose := (mkE_ok tab_ok mixed AllF.nil AllX.nil)
theorem ev_i_isPose (p : dPose) : evalF E_i_isPose noL Try.f100 [.ro true tPose] (.one false .bool) (p, ()) = g_i_isPose p := by kernel_rfl
def m_i_isPose : FM := { ps := [.ro true tPose], res := .one false .bool, run := fun x => some (t_i_isPose x.1) }
set_option maxRecDepth 4000 in
theorem ok_i_isPose : FmOK Try.prog 100 m_i_isPose := @FmOK.made Try.prog E_i_isPose ek_i_isPose 100 Try.f100 noL m_i_isPose Try.func100 (by kernel_rfl) (Loops.none (by kernel_rfl)) fun ds out _ hr => by obtain ⟨p, ⟨⟩⟩ := ds; exact (ev_i_isPose p).trans ((q_i_isPose p).trans hr)

def E_i_listed : Tabs := (mkE tab [] [])
set_option maxRecDepth 4000 in
theorem ek_i_listed : EnvOK Try.prog E_i_listed := (mkE_ok tab_ok mixed AllF.nil AllX.nil)
def lm_L_i_listed_1 : LM := { mat := [], head := { slots := [(3, .cst (.sl (.row 1))), (17, .dat false (.slice tTurn)), (18, .dat false (.int .i64)), (19, .dat false (.int .i64))], blks := [.dead, .row false (.flt .f32)] }, out := { slots := [(3, .cst (.sl (.row 1)))], blks := [.dead, .row false (.flt .f32)] }, ex := 0, rets := false, run := iter L_i_listed_1 fuel }
def ll_i_listed : List (Nat × LP) := [(3, .lm lm_L_i_listed_1)]
theorem rd_L_i_listed_1 (rec' : ((List dTurn) × Int × Int × Unit) × ((List Nat) × Unit) → Option ((Unit) × ((List Nat) × Unit))) (t17 : (List dTurn)) (t18 : Int) (t19 : Int) (r1 : (List Nat)) : round E_i_listed (lookL ll_i_listed) lm_L_i_listed_1 36 (loopAt Try.f101 0) rec' ((t17, t18, t19, ()), (r1, ())) = L_i_listed_1 rec' ((t17, t18, t19, ()), (r1, ())) := by kernel_rfl
theorem lo_i_listed : Loops E_i_listed (lookL ll_i_listed) Try.f101 := Loops.list (by kernel_rfl) (by kernel_rfl) ⟨LoopOK.iter (step := L_i_listed_1) (N := fun _ => fuel) (fun rec' x => by obtain ⟨⟨t17, t18, t19, ⟨⟩⟩, ⟨r1, ⟨⟩⟩⟩ := x; exact rd_L_i_listed_1 rec' t17 t18 t19 r1) fun _ => rfl, trivial⟩
theorem ev_i_listed (p : dPose) : evalF E_i_listed (lookL ll_i_listed) Try.f101 [.ro true tPose] (.one false (.slice (.flt .f32))) (p, ()) = g_i_listed p := by kernel_rfl
def m_i_listed : FM := { ps := [.ro true tPose], res := .one false (.slice (.flt .f32)), run := fun x => g_i_listed x.1 }
set_option maxRecDepth 4000 in
theorem ok_i_listed : FmOK Try.prog 101 m_i_listed := @FmOK.made Try.prog E_i_listed ek_i_listed 101 Try.f101 (lookL ll_i_listed) m_i_listed Try.func101 (by kernel_rfl) lo_i_listed fun ds out _ hr => by obtain ⟨p, ⟨⟩⟩ := ds; exact (ev_i_listed p).trans hr

def E_i_NumbersOfPose : Tabs := (mkE tab [(100, m_i_isPose), (101, m_i_listed)] [])
set_option maxRecDepth 4000 in
theorem ek_i_NumbersOfPose : EnvOK Try.prog E_i_NumbersOfPose := (mkE_ok tab_ok mixed (AllF.cons ok_i_isPose (AllF.cons ok_i_listed AllF.nil)) AllX.nil)
theorem ev_i_NumbersOfPose (p : dPose) : evalF E_i_NumbersOfPose noL Try.f50 [.ro true tPose] (.tup [(false, (.slice (.flt .f32))), (false, .bool)]) (p, ()) = g_i_NumbersOfPose p := by kernel_rfl
def m_i_NumbersOfPose : FM := { ps := [.ro true tPose], res := .tup [(false, (.slice (.flt .f32))), (false, .bool)], run := fun x => g_i_NumbersOfPose x.1 }
set_option maxRecDepth 4000 in
theorem ok_i_NumbersOfPose : FmOK Try.prog 50 m_i_NumbersOfPose := @FmOK.made Try.prog E_i_NumbersOfPose ek_i_NumbersOfPose 50 Try.f50 noL m_i_NumbersOfPose Try.func50 (by kernel_rfl) (Loops.none (by kernel_rfl)) fun ds out _ hr => by obtain ⟨p, ⟨⟩⟩ := ds; exact (ev_i_NumbersOfPose p).trans hr

def E_w_FnExactNumbersOfPose : Tabs := (mkE tab [(47, m_w_szPose), (49, m_w_toPose), (48, m_s_NumbersOfPose), (50, m_i_NumbersOfPose), (18, m_w_eqFloat32S), (36, m_w_eqPose), (33, m_w_heldFloat32S)] [(37, m_w_markPose), (32, m_w_markFloat32S)])
set_option maxRecDepth 4000 in
theorem ek_w_FnExactNumbersOfPose : EnvOK Try.prog E_w_FnExactNumbersOfPose := (mkE_ok tab_ok mixed (AllF.cons ok_w_szPose (AllF.cons ok_w_toPose (AllF.cons ok_s_NumbersOfPose (AllF.cons ok_i_NumbersOfPose (AllF.cons ok_w_eqFloat32S (AllF.cons ok_w_eqPose (AllF.cons ok_w_heldFloat32S AllF.nil))))))) (AllX.cons ok_w_markPose (AllX.cons ok_w_markFloat32S AllX.nil)))
theorem ev_w_FnExactNumbersOfPose (aP : dPose) : evalF E_w_FnExactNumbersOfPose noL Try.f10 [.ro true tPose] (.one false .bool) (aP, ()) = g_w_FnExactNumbersOfPose aP := by kernel_rfl
def m_w_FnExactNumbersOfPose : FM := { ps := [.ro true tPose], res := .one false .bool, run := fun x => g_w_FnExactNumbersOfPose x.1 }
set_option maxRecDepth 4000 in
theorem ok_w_FnExactNumbersOfPose : FmOK Try.prog 10 m_w_FnExactNumbersOfPose := @FmOK.made Try.prog E_w_FnExactNumbersOfPose ek_w_FnExactNumbersOfPose 10 Try.f10 noL m_w_FnExactNumbersOfPose Try.func10 (by kernel_rfl) (Loops.none (by kernel_rfl)) fun ds out _ hr => by obtain ⟨aP, ⟨⟩⟩ := ds; exact (ev_w_FnExactNumbersOfPose aP).trans hr

def E_w_szPoseS : Tabs := (mkE tab [(47, m_w_szPose)] [])
set_option maxRecDepth 4000 in
theorem ek_w_szPoseS : EnvOK Try.prog E_w_szPoseS := (mkE_ok tab_ok mixed (AllF.cons ok_w_szPose AllF.nil) AllX.nil)
def lm_L_w_szPoseS_1 : LM := { mat := [], head := { slots := [(0, .dat false (.slice tPose)), (1, .dat false (.int .i64)), (4, .dat false (.int .i64)), (5, .dat false (.int .i64))], blks := [] }, out := { slots := [(1, .dat false (.int .i64)), (4, .dat false (.int .i64))], blks := [] }, ex := 0, rets := true, run := iter L_w_szPoseS_1 fuel }
def ll_w_szPoseS : List (Nat × LP) := [(5, .lm lm_L_w_szPoseS_1)]
theorem rd_L_w_szPoseS_1 (rec' : ((List dPose) × Int × Int × Int × Unit) × (Unit) → Option (Bool × ((Int × Int × Unit) × (Unit)))) (a : (List dPose)) (left : Int) (t4 : Int) (i : Int) : round E_w_szPoseS (lookL ll_w_szPoseS) lm_L_w_szPoseS_1 27 (loopAt Try.f102 0) rec' ((a, left, t4, i, ()), (())) = L_w_szPoseS_1 rec' ((a, left, t4, i, ()), (())) := by kernel_rfl
theorem lo_w_szPoseS : Loops E_w_szPoseS (lookL ll_w_szPoseS) Try.f102 := Loops.list (by kernel_rfl) (by kernel_rfl) ⟨LoopOK.iter (step := L_w_szPoseS_1) (N := fun _ => fuel) (fun rec' x => by obtain ⟨⟨a, left, t4, i, ⟨⟩⟩, ⟨⟨⟩⟩⟩ := x; exact rd_L_w_szPoseS_1 rec' a left t4 i) fun _ => rfl, trivial⟩
theorem ev_w_szPoseS (a : (List dPose)) (left : Int) : evalF E_w_szPoseS (lookL ll_w_szPoseS) Try.f102 [.ro false (.slice tPose), .ro false (.int .i64)] (.one false (.int .i64)) (a, left, ()) = g_w_szPoseS a left := by kernel_rfl
def m_w_szPoseS : FM := { ps := [.ro false (.slice tPose), .ro false (.int .i64)], res := .one false (.int .i64), run := fun x => g_w_szPoseS x.1 x.2.1 }
set_option maxRecDepth 4000 in
theorem ok_w_szPoseS : FmOK Try.prog 102 m_w_szPoseS := @FmOK.made Try.prog E_w_szPoseS ek_w_szPoseS 102 Try.f102 (lookL ll_w_szPoseS) m_w_szPoseS Try.func102 (by kernel_rfl) lo_w_szPoseS fun ds out _ hr => by obtain ⟨a, left, ⟨⟩⟩ := ds; exact (ev_w_szPoseS a left).trans hr

def E_w_szRecording : Tabs := (mkE tab [(102, m_w_szPoseS)] [])
set_option maxRecDepth 4000 in
theorem ek_w_szRecording : EnvOK Try.prog E_w_szRecording := (mkE_ok tab_ok mixed (AllF.cons ok_w_szPoseS AllF.nil) AllX.nil)
theorem ev_w_szRecording (a : dRec) (left : Int) : evalF E_w_szRecording noL Try.f51 [.ro true tRec, .ro false (.int .i64)] (.one false (.int .i64)) (a, left, ()) = g_w_szRecording a left := by kernel_rfl
def m_w_szRecording : FM := { ps := [.ro true tRec, .ro false (.int .i64)], res := .one false (.int .i64), run := fun x => g_w_szRecording x.1 x.2.1 }
set_option maxRecDepth 4000 in
theorem ok_w_szRecording : FmOK Try.prog 51 m_w_szRecording := @FmOK.made Try.prog E_w_szRecording ek_w_szRecording 51 Try.f51 noL m_w_szRecording Try.func51 (by kernel_rfl) (Loops.none (by kernel_rfl)) fun ds out _ hr => by obtain ⟨a, left, ⟨⟩⟩ := ds; exact (ev_w_szRecording a left).trans hr

def E_w_toPoseS : Tabs := (mkE tab [(49, m_w_toPose)] [])
set_option maxRecDepth 4000 in
theorem ek_w_toPoseS : EnvOK Try.prog E_w_toPoseS := (mkE_ok tab_ok mixed (AllF.cons ok_w_toPose AllF.nil) AllX.nil)
def lm_L_w_toPoseS_1 : LM := { mat := [], head := { slots := [(0, .dat false (.slice tPose)), (3, .cst (.sl (.row 0))), (4, .dat false (.int .i64))], blks := [.row false tPose] }, out := { slots := [(3, .cst (.sl (.row 0)))], blks := [.row false tPose] }, ex := 0, rets := false, run := iter L_w_toPoseS_1 fuel }
def ll_w_toPoseS : List (Nat × LP) := [(3, .lm lm_L_w_toPoseS_1)]
theorem rd_L_w_toPoseS_1 (rec' : ((List dPose) × Int × Unit) × ((List dPose) × Unit) → Option ((Unit) × ((List dPose) × Unit))) (a : (List dPose)) (i : Int) (r0 : (List dPose)) : round E_w_toPoseS (lookL ll_w_toPoseS) lm_L_w_toPoseS_1 23 (loopAt Try.f104 0) rec' ((a, i, ()), (r0, ())) = L_w_toPoseS_1 rec' ((a, i, ()), (r0, ())) := by kernel_rfl
theorem lo_w_toPoseS : Loops E_w_toPoseS (lookL ll_w_toPoseS) Try.f104 := Loops.list (by kernel_rfl) (by kernel_rfl) ⟨LoopOK.iter (step := L_w_toPoseS_1) (N := fun _ => fuel) (fun rec' x => by obtain ⟨⟨a, i, ⟨⟩⟩, ⟨r0, ⟨⟩⟩⟩ := x; exact rd_L_w_toPoseS_1 rec' a i r0) fun _ => rfl, trivial⟩
theorem ev_w_toPoseS (a : (List dPose)) : evalF E_w_toPoseS (lookL ll_w_toPoseS) Try.f104 [.ro false (.slice tPose)] (.one false (.slice tPose)) (a, ()) = g_w_toPoseS a := by kernel_rfl
def m_w_toPoseS : FM := { ps := [.ro false (.slice tPose)], res := .one false (.slice tPose), run := fun x => g_w_toPoseS x.1 }
set_option maxRecDepth 4000 in
theorem ok_w_toPoseS : FmOK Try.prog 104 m_w_toPoseS := @FmOK.made Try.prog E_w_toPoseS ek_w_toPoseS 104 Try.f104 (lookL ll_w_toPoseS) m_w_toPoseS Try.func104 (by kernel_rfl) lo_w_toPoseS fun ds out _ hr => by obtain ⟨a, ⟨⟩⟩ := ds; exact (ev_w_toPoseS a).trans hr

def E_w_toRecording : Tabs := (mkE tab [(104, m_w_toPoseS)] [])
set_option maxRecDepth 4000 in
theorem ek_w_toRecording : EnvOK Try.prog E_w_toRecording := (mkE_ok tab_ok mixed (AllF.cons ok_w_toPoseS AllF.nil) AllX.nil)
theorem ev_w_toRecording (a : dRec) : evalF E_w_toRecording noL Try.f53 [.ro true tRec] (.one true tRec) (a, ()) = g_w_toRecording a := by kernel_rfl
def m_w_toRecording : FM := { ps := [.ro true tRec], res := .one true tRec, run := fun x => g_w_toRecording x.1 }
set_option maxRecDepth 4000 in
theorem ok_w_toRecording : FmOK Try.prog 53 m_w_toRecording := @FmOK.made Try.prog E_w_toRecording ek_w_toRecording 53 Try.f53 noL m_w_toRecording Try.func53 (by kernel_rfl) (Loops.none (by kernel_rfl)) fun ds out _ hr => by obtain ⟨a, ⟨⟩⟩ := ds; exact (ev_w_toRecording a).trans hr

def E_s_l10Is : Tabs := (mkE tab [(81, m_s_l06Count)] [])
set_option maxRecDepth 4000 in
theorem ek_s_l10Is : EnvOK Try.prog E_s_l10Is := (mkE_ok tab_ok mixed (AllF.cons ok_s_l06Count AllF.nil) AllX.nil)
def lm_L_s_l10Is_1 : LM := { mat := [], head := { slots := [(0, .dat false (.ref tRec)), (2, .dat false .bool), (3, .dat false (.int .i64))], blks := [] }, out := { slots := [(2, .dat false .bool)], blks := [] }, ex := 0, rets := true, run := iter L_s_l10Is_1 fuel }
def ll_s_l10Is : List (Nat × LP) := [(4, .lm lm_L_s_l10Is_1)]
theorem rd_L_s_l10Is_1 (rec' : (dRec × Bool × Int × Unit) × (Unit) → Option (Bool × ((Bool × Unit) × (Unit)))) (r : dRec) (t2 : Bool) (i : Int) : round E_s_l10Is (lookL ll_s_l10Is) lm_L_s_l10Is_1 41 (loopAt Try.f103 0) rec' ((r, t2, i, ()), (())) = L_s_l10Is_1 rec' ((r, t2, i, ()), (())) := by kernel_rfl
theorem lo_s_l10Is : Loops E_s_l10Is (lookL ll_s_l10Is) Try.f103 := Loops.list (by kernel_rfl) (by kernel_rfl) ⟨LoopOK.iter (step := L_s_l10Is_1) (N := fun _ => fuel) (fun rec' x => by obtain ⟨⟨r, t2, i, ⟨⟩⟩, ⟨⟨⟩⟩⟩ := x; exact rd_L_s_l10Is_1 rec' r t2 i) fun _ => rfl, trivial⟩
theorem ev_s_l10Is (r : dRec) : evalF E_s_l10Is (lookL ll_s_l10Is) Try.f103 [.rptr tRec] (.one false .bool) (r, ()) = g_s_l10Is r := by kernel_rfl
def m_s_l10Is : FM := { ps := [.rptr tRec], res := .one false .bool, run := fun x => g_s_l10Is x.1 }
set_option maxRecDepth 4000 in
theorem ok_s_l10Is : FmOK Try.prog 103 m_s_l10Is := @FmOK.made Try.prog E_s_l10Is ek_s_l10Is 103 Try.f103 (lookL ll_s_l10Is) m_s_l10Is Try.func103 (by kernel_rfl) lo_s_l10Is fun ds out _ hr => by obtain ⟨r, ⟨⟩⟩ := ds; exact (ev_s_l10Is r).trans hr

def E_s_ValidRecording : Tabs := (mkE tab [(103, m_s_l10Is)] [])
set_option maxRecDepth 4000 in
theorem ek_s_ValidRecording : EnvOK Try.prog E_s_ValidRecording := (mkE_ok tab_ok mixed (AllF.cons ok_s_l10Is AllF.nil) AllX.nil)
theorem ev_s_ValidRecording (r : dRec) : evalF E_s_ValidRecording noL Try.f52 [.ro true tRec] (.one false .bool) (r, ()) = g_s_ValidRecording r := by kernel_rfl
def m_s_ValidRecording : FM := { ps := [.ro true tRec], res := .one false .bool, run := fun x => g_s_ValidRecording x.1 }
set_option maxRecDepth 4000 in
theorem ok_s_ValidRecording : FmOK Try.prog 52 m_s_ValidRecording := @FmOK.made Try.prog E_s_ValidRecording ek_s_ValidRecording 52 Try.f52 noL m_s_ValidRecording Try.func52 (by kernel_rfl) (Loops.none (by kernel_rfl)) fun ds out _ hr => by obtain ⟨r, ⟨⟩⟩ := ds; exact (ev_s_ValidRecording r).trans hr

def E_i_isCount : Tabs := (mkE tab [] [])
set_option maxRecDepth 4000 in
theorem ek_i_isCount : EnvOK Try.prog E_i_isCount := (mkE_ok tab_ok mixed AllF.nil AllX.nil)
theorem ev_i_isCount (count : Int) : evalF E_i_isCount noL Try.f105 [.ro false (.int .i64)] (.one false .bool) (count, ()) = g_i_isCount count := by kernel_rfl
def m_i_isCount : FM := { ps := [.ro false (.int .i64)], res := .one false .bool, run := fun x => some (t_i_isCount x.1) }
set_option maxRecDepth 4000 in
theorem ok_i_isCount : FmOK Try.prog 105 m_i_isCount := @FmOK.made Try.prog E_i_isCount ek_i_isCount 105 Try.f105 noL m_i_isCount Try.func105 (by kernel_rfl) (Loops.none (by kernel_rfl)) fun ds out _ hr => by obtain ⟨count, ⟨⟩⟩ := ds; exact (ev_i_isCount count).trans ((q_i_isCount count).trans hr)

def E_i_ValidRecording_1 : Tabs := (mkE tab [] [])
set_option maxRecDepth 4000 in
theorem ek_i_ValidRecording_1 : EnvOK Try.prog E_i_ValidRecording_1 := (mkE_ok tab_ok mixed AllF.nil AllX.nil)
theorem ev_i_ValidRecording_1 (p : dPose) (p1 : dRec) : evalF E_i_ValidRecording_1 noL Try.f107 [.ro true tPose, .rptr tRec] (.one false .bool) (p, p1, ()) = g_i_ValidRecording_1 p p1 := by kernel_rfl
def m_i_ValidRecording_1 : FM := { ps := [.ro true tPose, .rptr tRec], res := .one false .bool, run := fun x => some (t_i_ValidRecording_1 x.1 x.2.1) }
set_option maxRecDepth 4000 in
theorem ok_i_ValidRecording_1 : FmOK Try.prog 107 m_i_ValidRecording_1 := @FmOK.made Try.prog E_i_ValidRecording_1 ek_i_ValidRecording_1 107 Try.f107 noL m_i_ValidRecording_1 Try.func107 (by kernel_rfl) (Loops.none (by kernel_rfl)) fun ds out _ hr => by obtain ⟨p, p1, ⟨⟩⟩ := ds; exact (ev_i_ValidRecording_1 p p1).trans ((q_i_ValidRecording_1 p p1).trans hr)

def E_slices_IndexFunc_i_Pose_i_Pose : Tabs := (mkE tab [(107, m_i_ValidRecording_1)] [])
set_option maxRecDepth 4000 in
theorem ek_slices_IndexFunc_i_Pose_i_Pose : EnvOK Try.prog E_slices_IndexFunc_i_Pose_i_Pose := (mkE_ok tab_ok mixed (AllF.cons ok_i_ValidRecording_1 AllF.nil) AllX.nil)
def lm_L_slices_IndexFunc_i_Pose_i_Pose_1 : LM := { mat := [], head := { slots := [(0, .dat false (.slice tPose)), (1, .fnc 107 [tRec]), (4, .dat false (.int .i64)), (7, .dat false (.int .i64)), (8, .dat false (.int .i64))], blks := [] }, out := { slots := [(4, .dat false (.int .i64))], blks := [] }, ex := 0, rets := true, run := iter L_slices_IndexFunc_i_Pose_i_Pose_1 fuel }
def ll_slices_IndexFunc_i_Pose_i_Pose : List (Nat × LP) := [(2, .lm lm_L_slices_IndexFunc_i_Pose_i_Pose_1)]
theorem rd_L_slices_IndexFunc_i_Pose_i_Pose_1 (rec' : ((List dPose) × (dRec × Unit) × Int × Int × Int × Unit) × (Unit) → Option (Bool × ((Int × Unit) × (Unit)))) (s : (List dPose)) (f : (dRec × Unit)) (t4 : Int) (t7 : Int) (t8 : Int) : round E_slices_IndexFunc_i_Pose_i_Pose (lookL ll_slices_IndexFunc_i_Pose_i_Pose) lm_L_slices_IndexFunc_i_Pose_i_Pose_1 19 (loopAt Try.f130 0) rec' ((s, f, t4, t7, t8, ()), (())) = L_slices_IndexFunc_i_Pose_i_Pose_1 rec' ((s, f, t4, t7, t8, ()), (())) := by kernel_rfl
theorem lo_slices_IndexFunc_i_Pose_i_Pose : Loops E_slices_IndexFunc_i_Pose_i_Pose (lookL ll_slices_IndexFunc_i_Pose_i_Pose) Try.f130 := Loops.list (by kernel_rfl) (by kernel_rfl) ⟨LoopOK.iter (step := L_slices_IndexFunc_i_Pose_i_Pose_1) (N := fun _ => fuel) (fun rec' x => by obtain ⟨⟨s, f, t4, t7, t8, ⟨⟩⟩, ⟨⟨⟩⟩⟩ := x; exact rd_L_slices_IndexFunc_i_Pose_i_Pose_1 rec' s f t4 t7 t8) fun _ => rfl, trivial⟩
theorem ev_slices_IndexFunc_i_Pose_i_Pose (s : (List dPose)) (f : (dRec × Unit)) : evalF E_slices_IndexFunc_i_Pose_i_Pose (lookL ll_slices_IndexFunc_i_Pose_i_Pose) Try.f130 [.ro false (.slice tPose), .fnc 107 [tRec]] (.one false (.int .i64)) (s, f, ()) = g_slices_IndexFunc_i_Pose_i_Pose s f := by kernel_rfl
def m_slices_IndexFunc_i_Pose_i_Pose : FM := { ps := [.ro false (.slice tPose), .fnc 107 [tRec]], res := .one false (.int .i64), run := fun x => g_slices_IndexFunc_i_Pose_i_Pose x.1 x.2.1 }
set_option maxRecDepth 4000 in
theorem ok_slices_IndexFunc_i_Pose_i_Pose : FmOK Try.prog 130 m_slices_IndexFunc_i_Pose_i_Pose := @FmOK.made Try.prog E_slices_IndexFunc_i_Pose_i_Pose ek_slices_IndexFunc_i_Pose_i_Pose 130 Try.f130 (lookL ll_slices_IndexFunc_i_Pose_i_Pose) m_slices_IndexFunc_i_Pose_i_Pose Try.func130 (by kernel_rfl) lo_slices_IndexFunc_i_Pose_i_Pose fun ds out _ hr => by obtain ⟨s, f, ⟨⟩⟩ := ds; exact (ev_slices_IndexFunc_i_Pose_i_Pose s f).trans hr

def E_slices_ContainsFunc_i_Pose_i_Pose : Tabs := (mkE tab [(130, m_slices_IndexFunc_i_Pose_i_Pose)] [])
set_option maxRecDepth 4000 in
theorem ek_slices_ContainsFunc_i_Pose_i_Pose : EnvOK Try.prog E_slices_ContainsFunc_i_Pose_i_Pose := (mkE_ok tab_ok mixed (AllF.cons ok_slices_IndexFunc_i_Pose_i_Pose AllF.nil) AllX.nil)
theorem ev_slices_ContainsFunc_i_Pose_i_Pose (s : (List dPose)) (f : (dRec × Unit)) : evalF E_slices_ContainsFunc_i_Pose_i_Pose noL Try.f106 [.ro false (.slice tPose), .fnc 107 [tRec]] (.one false .bool) (s, f, ()) = g_slices_ContainsFunc_i_Pose_i_Pose s f := by kernel_rfl
def m_slices_ContainsFunc_i_Pose_i_Pose : FM := { ps := [.ro false (.slice tPose), .fnc 107 [tRec]], res := .one false .bool, run := fun x => g_slices_ContainsFunc_i_Pose_i_Pose x.1 x.2.1 }
set_option maxRecDepth 4000 in
theorem ok_slices_ContainsFunc_i_Pose_i_Pose : FmOK Try.prog 106 m_slices_ContainsFunc_i_Pose_i_Pose := @FmOK.made Try.prog E_slices_ContainsFunc_i_Pose_i_Pose ek_slices_ContainsFunc_i_Pose_i_Pose 106 Try.f106 noL m_slices_ContainsFunc_i_Pose_i_Pose Try.func106 (by kernel_rfl) (Loops.none (by kernel_rfl)) fun ds out _ hr => by obtain ⟨s, f, ⟨⟩⟩ := ds; exact (ev_slices_ContainsFunc_i_Pose_i_Pose s f).trans hr

def E_i_ValidRecording : Tabs := (mkE tab [(105, m_i_isCount), (106, m_slices_ContainsFunc_i_Pose_i_Pose)] [])
set_option maxRecDepth 4000 in
theorem ek_i_ValidRecording : EnvOK Try.prog E_i_ValidRecording := (mkE_ok tab_ok mixed (AllF.cons ok_i_isCount (AllF.cons ok_slices_ContainsFunc_i_Pose_i_Pose AllF.nil)) AllX.nil)
theorem ev_i_ValidRecording (r : dRec) : evalF E_i_ValidRecording noL Try.f54 [.ro true tRec] (.one false .bool) (r, ()) = g_i_ValidRecording r := by kernel_rfl
def m_i_ValidRecording : FM := { ps := [.ro true tRec], res := .one false .bool, run := fun x => g_i_ValidRecording x.1 }
set_option maxRecDepth 4000 in
theorem ok_i_ValidRecording : FmOK Try.prog 54 m_i_ValidRecording := @FmOK.made Try.prog E_i_ValidRecording ek_i_ValidRecording 54 Try.f54 noL m_i_ValidRecording Try.func54 (by kernel_rfl) (Loops.none (by kernel_rfl)) fun ds out _ hr => by obtain ⟨r, ⟨⟩⟩ := ds; exact (ev_i_ValidRecording r).trans hr

def E_w_eqPoseS : Tabs := (mkE tab [(36, m_w_eqPose)] [])
set_option maxRecDepth 4000 in
theorem ek_w_eqPoseS : EnvOK Try.prog E_w_eqPoseS := (mkE_ok tab_ok mixed (AllF.cons ok_w_eqPose AllF.nil) AllX.nil)
def lm_L_w_eqPoseS_1 : LM := { mat := [], head := { slots := [(0, .dat false (.slice tPose)), (1, .dat false (.slice tPose)), (4, .dat false .bool), (5, .dat false (.int .i64))], blks := [] }, out := { slots := [(4, .dat false .bool)], blks := [] }, ex := 0, rets := true, run := iter L_w_eqPoseS_1 fuel }
def ll_w_eqPoseS : List (Nat × LP) := [(4, .lm lm_L_w_eqPoseS_1)]
theorem rd_L_w_eqPoseS_1 (rec' : ((List dPose) × (List dPose) × Bool × Int × Unit) × (Unit) → Option (Bool × ((Bool × Unit) × (Unit)))) (a : (List dPose)) (b : (List dPose)) (t4 : Bool) (i : Int) : round E_w_eqPoseS (lookL ll_w_eqPoseS) lm_L_w_eqPoseS_1 27 (loopAt Try.f108 0) rec' ((a, b, t4, i, ()), (())) = L_w_eqPoseS_1 rec' ((a, b, t4, i, ()), (())) := by kernel_rfl
theorem lo_w_eqPoseS : Loops E_w_eqPoseS (lookL ll_w_eqPoseS) Try.f108 := Loops.list (by kernel_rfl) (by kernel_rfl) ⟨LoopOK.iter (step := L_w_eqPoseS_1) (N := fun _ => fuel) (fun rec' x => by obtain ⟨⟨a, b, t4, i, ⟨⟩⟩, ⟨⟨⟩⟩⟩ := x; exact rd_L_w_eqPoseS_1 rec' a b t4 i) fun _ => rfl, trivial⟩
theorem ev_w_eqPoseS (a : (List dPose)) (b : (List dPose)) : evalF E_w_eqPoseS (lookL ll_w_eqPoseS) Try.f108 [.ro false (.slice tPose), .ro false (.slice tPose)] (.one false .bool) (a, b, ()) = g_w_eqPoseS a b := by kernel_rfl
def m_w_eqPoseS : FM := { ps := [.ro false (.slice tPose), .ro false (.slice tPose)], res := .one false .bool, run := fun x => g_w_eqPoseS x.1 x.2.1 }
set_option maxRecDepth 4000 in
theorem ok_w_eqPoseS : FmOK Try.prog 108 m_w_eqPoseS := @FmOK.made Try.prog E_w_eqPoseS ek_w_eqPoseS 108 Try.f108 (lookL ll_w_eqPoseS) m_w_eqPoseS Try.func108 (by kernel_rfl) lo_w_eqPoseS fun ds out _ hr => by obtain ⟨a, b, ⟨⟩⟩ := ds; exact (ev_w_eqPoseS a b).trans hr

def E_w_eqRecording : Tabs := (mkE tab [(108, m_w_eqPoseS)] [])
set_option maxRecDepth 4000 in
theorem ek_w_eqRecording : EnvOK Try.prog E_w_eqRecording := (mkE_ok tab_ok mixed (AllF.cons ok_w_eqPoseS AllF.nil) AllX.nil)
theorem ev_w_eqRecording (a : dRec) (b : dRec) : evalF E_w_eqRecording noL Try.f55 [.ro true tRec, .ro true tRec] (.one false .bool) (a, b, ()) = g_w_eqRecording a b := by kernel_rfl
def m_w_eqRecording : FM := { ps := [.ro true tRec, .ro true tRec], res := .one false .bool, run := fun x => g_w_eqRecording x.1 x.2.1 }
set_option maxRecDepth 4000 in
theorem ok_w_eqRecording : FmOK Try.prog 55 m_w_eqRecording := @FmOK.made Try.prog E_w_eqRecording ek_w_eqRecording 55 Try.f55 noL m_w_eqRecording Try.func55 (by kernel_rfl) (Loops.none (by kernel_rfl)) fun ds out _ hr => by obtain ⟨a, b, ⟨⟩⟩ := ds; exact (ev_w_eqRecording a b).trans hr

def E_w_FnExactValidRecording : Tabs := (mkE tab [(51, m_w_szRecording), (53, m_w_toRecording), (52, m_s_ValidRecording), (54, m_i_ValidRecording), (55, m_w_eqRecording)] [])
set_option maxRecDepth 4000 in
theorem ek_w_FnExactValidRecording : EnvOK Try.prog E_w_FnExactValidRecording := (mkE_ok tab_ok mixed (AllF.cons ok_w_szRecording (AllF.cons ok_w_toRecording (AllF.cons ok_s_ValidRecording (AllF.cons ok_i_ValidRecording (AllF.cons ok_w_eqRecording AllF.nil))))) AllX.nil)
theorem ev_w_FnExactValidRecording (aR : dRec) : evalF E_w_FnExactValidRecording noL Try.f11 [.ro true tRec] (.one false .bool) (aR, ()) = g_w_FnExactValidRecording aR := by kernel_rfl
def m_w_FnExactValidRecording : FM := { ps := [.ro true tRec], res := .one false .bool, run := fun x => g_w_FnExactValidRecording x.1 }
set_option maxRecDepth 4000 in
theorem ok_w_FnExactValidRecording : FmOK Try.prog 11 m_w_FnExactValidRecording := @FmOK.made Try.prog E_w_FnExactValidRecording ek_w_FnExactValidRecording 11 Try.f11 noL m_w_FnExactValidRecording Try.func11 (by kernel_rfl) (Loops.none (by kernel_rfl)) fun ds out _ hr => by obtain ⟨aR, ⟨⟩⟩ := ds; exact (ev_w_FnExactValidRecording aR).trans hr

set_option maxRecDepth 4000 in
theorem ok_float32bits : FmOK Try.prog 142 m_float32bits := FmOK.bits (e := Extern.MathFloatBits.float32bits) Try.func142 (by kernel_rfl) rfl (by kernel_rfl) (by kernel_rfl) (fun _ _ => rfl) (by decide) (by decide)

def E_s_l01Bits : Tabs := (mkE tab [(142, m_float32bits)] [])
set_option maxRecDepth 4000 in
theorem ek_s_l01Bits : EnvOK Try.prog E_s_l01Bits := (mkE_ok tab_ok mixed (AllF.cons ok_float32bits AllF.nil) AllX.nil)
theorem ev_s_l01Bits (xx : Nat) : evalF E_s_l01Bits noL Try.f137 [.ro false (.flt .f32)] (.one false (.int .i64)) (xx, ()) = g_s_l01Bits xx := by kernel_rfl
def m_s_l01Bits : FM := { ps := [.ro false (.flt .f32)], res := .one false (.int .i64), run := fun x => g_s_l01Bits x.1 }
set_option maxRecDepth 4000 in
theorem ok_s_l01Bits : FmOK Try.prog 137 m_s_l01Bits := @FmOK.made Try.prog E_s_l01Bits ek_s_l01Bits 137 Try.f137 noL m_s_l01Bits Try.func137 (by kernel_rfl) (Loops.none (by kernel_rfl)) fun ds out _ hr => by obtain ⟨xx, ⟨⟩⟩ := ds; exact (ev_s_l01Bits xx).trans hr

def E_s_l01Same : Tabs := (mkE tab [(137, m_s_l01Bits)] [])
set_option maxRecDepth 4000 in
theorem ek_s_l01Same : EnvOK Try.prog E_s_l01Same := (mkE_ok tab_ok mixed (AllF.cons ok_s_l01Bits AllF.nil) AllX.nil)
theorem ev_s_l01Same (a : Nat) (b : Nat) : evalF E_s_l01Same noL Try.f131 [.ro false (.flt .f32), .ro false (.flt .f32)] (.one false .bool) (a, b, ()) = g_s_l01Same a b := by kernel_rfl
def m_s_l01Same : FM := { ps := [.ro false (.flt .f32), .ro false (.flt .f32)], res := .one false .bool, run := fun x => g_s_l01Same x.1 x.2.1 }
set_option maxRecDepth 4000 in
theorem ok_s_l01Same : FmOK Try.prog 131 m_s_l01Same := @FmOK.made Try.prog E_s_l01Same ek_s_l01Same 131 Try.f131 noL m_s_l01Same Try.func131 (by kernel_rfl) (Loops.none (by kernel_rfl)) fun ds out _ hr => by obtain ⟨a, b, ⟨⟩⟩ := ds; exact (ev_s_l01Same a b).trans hr

def E_s_l10Changed : Tabs := (mkE tab [(131, m_s_l01Same)] [])
set_option maxRecDepth 4000 in
theorem ek_s_l10Changed : EnvOK Try.prog E_s_l10Changed := (mkE_ok tab_ok mixed (AllF.cons ok_s_l01Same AllF.nil) AllX.nil)
def lm_L_s_l10Changed_1 : LM := { mat := [], head := { slots := [(0, .dat false (.slice (.flt .f32))), (1, .dat false (.slice (.flt .f32))), (5, .cst (.sl (.row 0))), (6, .dat false (.int .i64))], blks := [.row false (.int .i64)] }, out := { slots := [(5, .cst (.sl (.row 0)))], blks := [.row false (.int .i64)] }, ex := 0, rets := false, run := iter L_s_l10Changed_1 fuel }
def ll_s_l10Changed : List (Nat × LP) := [(3, .lm lm_L_s_l10Changed_1)]
theorem rd_L_s_l10Changed_1 (rec' : ((List Nat) × (List Nat) × Int × Unit) × ((List Int) × Unit) → Option ((Unit) × ((List Int) × Unit))) (a : (List Nat)) (b : (List Nat)) (i : Int) (r0 : (List Int)) : round E_s_l10Changed (lookL ll_s_l10Changed) lm_L_s_l10Changed_1 29 (loopAt Try.f109 0) rec' ((a, b, i, ()), (r0, ())) = L_s_l10Changed_1 rec' ((a, b, i, ()), (r0, ())) := by kernel_rfl
theorem lo_s_l10Changed : Loops E_s_l10Changed (lookL ll_s_l10Changed) Try.f109 := Loops.list (by kernel_rfl) (by kernel_rfl) ⟨LoopOK.iter (step := L_s_l10Changed_1) (N := fun _ => fuel) (fun rec' x => by obtain ⟨⟨a, b, i, ⟨⟩⟩, ⟨r0, ⟨⟩⟩⟩ := x; exact rd_L_s_l10Changed_1 rec' a b i r0) fun _ => rfl, trivial⟩
theorem ev_s_l10Changed (a : (List Nat)) (b : (List Nat)) : evalF E_s_l10Changed (lookL ll_s_l10Changed) Try.f109 [.ro false (.slice (.flt .f32)), .ro false (.slice (.flt .f32))] (.one false (.slice (.int .i64))) (a, b, ()) = g_s_l10Changed a b := by kernel_rfl
def m_s_l10Changed : FM := { ps := [.ro false (.slice (.flt .f32)), .ro false (.slice (.flt .f32))], res := .one false (.slice (.int .i64)), run := fun x => g_s_l10Changed x.1 x.2.1 }
set_option maxRecDepth 4000 in
theorem ok_s_l10Changed : FmOK Try.prog 109 m_s_l10Changed := @FmOK.made Try.prog E_s_l10Changed ek_s_l10Changed 109 Try.f109 (lookL ll_s_l10Changed) m_s_l10Changed Try.func109 (by kernel_rfl) lo_s_l10Changed fun ds out _ hr => by obtain ⟨a, b, ⟨⟩⟩ := ds; exact (ev_s_l10Changed a b).trans hr

def E_s_ChangedNumbers : Tabs := (mkE tab [(97, m_s_l03Few), (98, m_s_l10Numbers), (109, m_s_l10Changed)] [])
set_option maxRecDepth 4000 in
theorem ek_s_ChangedNumbers : EnvOK Try.prog E_s_ChangedNumbers := (mkE_ok tab_ok mixed (AllF.cons ok_s_l03Few (AllF.cons ok_s_l10Numbers (AllF.cons ok_s_l10Changed AllF.nil))) AllX.nil)
theorem ev_s_ChangedNumbers (a : dPose) (b : dPose) : evalF E_s_ChangedNumbers noL Try.f56 [.ro true tPose, .ro true tPose] (.tup [(false, (.slice (.int .i64))), (false, .bool)]) (a, b, ()) = g_s_ChangedNumbers a b := by kernel_rfl
def m_s_ChangedNumbers : FM := { ps := [.ro true tPose, .ro true tPose], res := .tup [(false, (.slice (.int .i64))), (false, .bool)], run := fun x => g_s_ChangedNumbers x.1 x.2.1 }
set_option maxRecDepth 4000 in
theorem ok_s_ChangedNumbers : FmOK Try.prog 56 m_s_ChangedNumbers := @FmOK.made Try.prog E_s_ChangedNumbers ek_s_ChangedNumbers 56 Try.f56 noL m_s_ChangedNumbers Try.func56 (by kernel_rfl) (Loops.none (by kernel_rfl)) fun ds out _ hr => by obtain ⟨a, b, ⟨⟩⟩ := ds; exact (ev_s_ChangedNumbers a b).trans hr

def E_i_arePair : Tabs := (mkE tab [(100, m_i_isPose)] [])
set_option maxRecDepth 4000 in
theorem ek_i_arePair : EnvOK Try.prog E_i_arePair := (mkE_ok tab_ok mixed (AllF.cons ok_i_isPose AllF.nil) AllX.nil)
theorem ev_i_arePair (p : dPose) (q : dPose) : evalF E_i_arePair noL Try.f110 [.ro true tPose, .ro true tPose] (.one false .bool) (p, q, ()) = g_i_arePair p q := by kernel_rfl
def m_i_arePair : FM := { ps := [.ro true tPose, .ro true tPose], res := .one false .bool, run := fun x => some (t_i_arePair x.1 x.2.1) }
set_option maxRecDepth 4000 in
theorem ok_i_arePair : FmOK Try.prog 110 m_i_arePair := @FmOK.made Try.prog E_i_arePair ek_i_arePair 110 Try.f110 noL m_i_arePair Try.func110 (by kernel_rfl) (Loops.none (by kernel_rfl)) fun ds out _ hr => by obtain ⟨p, q, ⟨⟩⟩ := ds; exact (ev_i_arePair p q).trans ((q_i_arePair p q).trans hr)

set_option maxRecDepth 4000 in
theorem ok_float64bits : FmOK Try.prog 143 m_float64bits := FmOK.bits (e := Extern.MathFloatBits.float64bits) Try.func143 (by kernel_rfl) rfl (by kernel_rfl) (by kernel_rfl) (fun _ _ => rfl) (by decide) (by decide)

def E_math_Signbit : Tabs := (mkE tab [(143, m_float64bits)] [])
set_option maxRecDepth 4000 in
theorem ek_math_Signbit : EnvOK Try.prog E_math_Signbit := (mkE_ok tab_ok mixed (AllF.cons ok_float64bits AllF.nil) AllX.nil)
theorem ev_math_Signbit (xx : Nat) : evalF E_math_Signbit noL Try.f138 [.ro false (.flt .f64)] (.one false .bool) (xx, ()) = g_math_Signbit xx := by kernel_rfl
def m_math_Signbit : FM := { ps := [.ro false (.flt .f64)], res := .one false .bool, run := fun x => g_math_Signbit x.1 }
set_option maxRecDepth 4000 in
theorem ok_math_Signbit : FmOK Try.prog 138 m_math_Signbit := @FmOK.made Try.prog E_math_Signbit ek_math_Signbit 138 Try.f138 noL m_math_Signbit Try.func138 (by kernel_rfl) (Loops.none (by kernel_rfl)) fun ds out _ hr => by obtain ⟨xx, ⟨⟩⟩ := ds; exact (ev_math_Signbit xx).trans hr

def E_i_SameNumber : Tabs := (mkE tab [(138, m_math_Signbit)] [])
set_option maxRecDepth 4000 in
theorem ek_i_SameNumber : EnvOK Try.prog E_i_SameNumber := (mkE_ok tab_ok mixed (AllF.cons ok_math_Signbit AllF.nil) AllX.nil)
theorem ev_i_SameNumber (a : Nat) (b : Nat) : evalF E_i_SameNumber noL Try.f132 [.ro false (.flt .f32), .ro false (.flt .f32)] (.one false .bool) (a, b, ()) = g_i_SameNumber a b := by kernel_rfl
def m_i_SameNumber : FM := { ps := [.ro false (.flt .f32), .ro false (.flt .f32)], res := .one false .bool, run := fun x => g_i_SameNumber x.1 x.2.1 }
set_option maxRecDepth 4000 in
theorem ok_i_SameNumber : FmOK Try.prog 132 m_i_SameNumber := @FmOK.made Try.prog E_i_SameNumber ek_i_SameNumber 132 Try.f132 noL m_i_SameNumber Try.func132 (by kernel_rfl) (Loops.none (by kernel_rfl)) fun ds out _ hr => by obtain ⟨a, b, ⟨⟩⟩ := ds; exact (ev_i_SameNumber a b).trans hr

def E_i_changed : Tabs := (mkE tab [(132, m_i_SameNumber)] [])
set_option maxRecDepth 4000 in
theorem ek_i_changed : EnvOK Try.prog E_i_changed := (mkE_ok tab_ok mixed (AllF.cons ok_i_SameNumber AllF.nil) AllX.nil)
def lm_L_i_changed_1 : LM := { mat := [.slot 5 (.int .i64)], head := { slots := [(0, .dat false (.slice (.flt .f32))), (1, .dat false (.slice (.flt .f32))), (5, .cst (.sl (.row 0))), (8, .dat false (.int .i64)), (9, .dat false (.int .i64))], blks := [.row false (.int .i64)] }, out := { slots := [(5, .cst (.sl (.row 0)))], blks := [.row false (.int .i64)] }, ex := 0, rets := false, run := iter L_i_changed_1 fuel }
def ll_i_changed : List (Nat × LP) := [(3, .lm lm_L_i_changed_1)]
theorem rd_L_i_changed_1 (rec' : ((List Nat) × (List Nat) × Int × Int × Unit) × ((List Int) × Unit) → Option ((Unit) × ((List Int) × Unit))) (a : (List Nat)) (b : (List Nat)) (t8 : Int) (t9 : Int) (r0 : (List Int)) : round E_i_changed (lookL ll_i_changed) lm_L_i_changed_1 28 (loopAt Try.f111 0) rec' ((a, b, t8, t9, ()), (r0, ())) = L_i_changed_1 rec' ((a, b, t8, t9, ()), (r0, ())) := by kernel_rfl
theorem lo_i_changed : Loops E_i_changed (lookL ll_i_changed) Try.f111 := Loops.list (by kernel_rfl) (by kernel_rfl) ⟨LoopOK.iter (step := L_i_changed_1) (N := fun _ => fuel) (fun rec' x => by obtain ⟨⟨a, b, t8, t9, ⟨⟩⟩, ⟨r0, ⟨⟩⟩⟩ := x; exact rd_L_i_changed_1 rec' a b t8 t9 r0) fun _ => rfl, trivial⟩
theorem ev_i_changed (a : (List Nat)) (b : (List Nat)) : evalF E_i_changed (lookL ll_i_changed) Try.f111 [.ro false (.slice (.flt .f32)), .ro false (.slice (.flt .f32))] (.one false (.slice (.int .i64))) (a, b, ()) = g_i_changed a b := by kernel_rfl
def m_i_changed : FM := { ps := [.ro false (.slice (.flt .f32)), .ro false (.slice (.flt .f32))], res := .one false (.slice (.int .i64)), run := fun x => g_i_changed x.1 x.2.1 }
set_option maxRecDepth 4000 in
theorem ok_i_changed : FmOK Try.prog 111 m_i_changed := @FmOK.made Try.prog E_i_changed ek_i_changed 111 Try.f111 (lookL ll_i_changed) m_i_changed Try.func111 (by kernel_rfl) lo_i_changed fun ds out _ hr => by obtain ⟨a, b, ⟨⟩⟩ := ds; exact (ev_i_changed a b).trans hr

def E_i_ChangedNumbers : Tabs := (mkE tab [(110, m_i_arePair), (101, m_i_listed), (111, m_i_changed)] [])
set_option maxRecDepth 4000 in
theorem ek_i_ChangedNumbers : EnvOK Try.prog E_i_ChangedNumbers := (mkE_ok tab_ok mixed (AllF.cons ok_i_arePair (AllF.cons ok_i_listed (AllF.cons ok_i_changed AllF.nil))) AllX.nil)
theorem ev_i_ChangedNumbers (a : dPose) (b : dPose) : evalF E_i_ChangedNumbers noL Try.f57 [.ro true tPose, .ro true tPose] (.tup [(false, (.slice (.int .i64))), (false, .bool)]) (a, b, ()) = g_i_ChangedNumbers a b := by kernel_rfl
def m_i_ChangedNumbers : FM := { ps := [.ro true tPose, .ro true tPose], res := .tup [(false, (.slice (.int .i64))), (false, .bool)], run := fun x => g_i_ChangedNumbers x.1 x.2.1 }
set_option maxRecDepth 4000 in
theorem ok_i_ChangedNumbers : FmOK Try.prog 57 m_i_ChangedNumbers := @FmOK.made Try.prog E_i_ChangedNumbers ek_i_ChangedNumbers 57 Try.f57 noL m_i_ChangedNumbers Try.func57 (by kernel_rfl) (Loops.none (by kernel_rfl)) fun ds out _ hr => by obtain ⟨a, b, ⟨⟩⟩ := ds; exact (ev_i_ChangedNumbers a b).trans hr

def E_w_FnExactChangedNumbers : Tabs := (mkE tab [(47, m_w_szPose), (49, m_w_toPose), (56, m_s_ChangedNumbers), (57, m_i_ChangedNumbers), (58, m_w_eqInt64S), (36, m_w_eqPose), (60, m_w_heldInt64S)] [(37, m_w_markPose), (59, m_w_markInt64S)])
set_option maxRecDepth 4000 in
theorem ek_w_FnExactChangedNumbers : EnvOK Try.prog E_w_FnExactChangedNumbers := (mkE_ok tab_ok mixed (AllF.cons ok_w_szPose (AllF.cons ok_w_toPose (AllF.cons ok_s_ChangedNumbers (AllF.cons ok_i_ChangedNumbers (AllF.cons ok_w_eqInt64S (AllF.cons ok_w_eqPose (AllF.cons ok_w_heldInt64S AllF.nil))))))) (AllX.cons ok_w_markPose (AllX.cons ok_w_markInt64S AllX.nil)))
theorem ev_w_FnExactChangedNumbers (aA : dPose) (aB : dPose) : evalF E_w_FnExactChangedNumbers noL Try.f12 [.ro true tPose, .ro true tPose] (.one false .bool) (aA, aB, ()) = g_w_FnExactChangedNumbers aA aB := by kernel_rfl
def m_w_FnExactChangedNumbers : FM := { ps := [.ro true tPose, .ro true tPose], res := .one false .bool, run := fun x => g_w_FnExactChangedNumbers x.1 x.2.1 }
set_option maxRecDepth 4000 in
theorem ok_w_FnExactChangedNumbers : FmOK Try.prog 12 m_w_FnExactChangedNumbers := @FmOK.made Try.prog E_w_FnExactChangedNumbers ek_w_FnExactChangedNumbers 12 Try.f12 noL m_w_FnExactChangedNumbers Try.func12 (by kernel_rfl) (Loops.none (by kernel_rfl)) fun ds out _ hr => by obtain ⟨aA, aB, ⟨⟩⟩ := ds; exact (ev_w_FnExactChangedNumbers aA aB).trans hr

def E_w_szInt64S : Tabs := (mkE tab [] [])
set_option maxRecDepth 4000 in
theorem ek_w_szInt64S : EnvOK Try.prog E_w_szInt64S := (mkE_ok tab_ok mixed AllF.nil AllX.nil)
theorem ev_w_szInt64S (a : (List Int)) (left : Int) : evalF E_w_szInt64S noL Try.f112 [.ro false (.slice (.int .i64)), .ro false (.int .i64)] (.one false (.int .i64)) (a, left, ()) = g_w_szInt64S a left := by kernel_rfl
def m_w_szInt64S : FM := { ps := [.ro false (.slice (.int .i64)), .ro false (.int .i64)], res := .one false (.int .i64), run := fun x => some (t_w_szInt64S x.1 x.2.1) }
set_option maxRecDepth 4000 in
theorem ok_w_szInt64S : FmOK Try.prog 112 m_w_szInt64S := @FmOK.made Try.prog E_w_szInt64S ek_w_szInt64S 112 Try.f112 noL m_w_szInt64S Try.func112 (by kernel_rfl) (Loops.none (by kernel_rfl)) fun ds out _ hr => by obtain ⟨a, left, ⟨⟩⟩ := ds; exact (ev_w_szInt64S a left).trans ((q_w_szInt64S a left).trans hr)

def E_w_szInt64SS : Tabs := (mkE tab [(112, m_w_szInt64S)] [])
set_option maxRecDepth 4000 in
theorem ek_w_szInt64SS : EnvOK Try.prog E_w_szInt64SS := (mkE_ok tab_ok mixed (AllF.cons ok_w_szInt64S AllF.nil) AllX.nil)
def lm_L_w_szInt64SS_1 : LM := { mat := [], head := { slots := [(0, .dat false (.slice (.slice (.int .i64)))), (1, .dat false (.int .i64)), (4, .dat false (.int .i64)), (5, .dat false (.int .i64))], blks := [] }, out := { slots := [(1, .dat false (.int .i64)), (4, .dat false (.int .i64))], blks := [] }, ex := 0, rets := true, run := iter L_w_szInt64SS_1 fuel }
def ll_w_szInt64SS : List (Nat × LP) := [(5, .lm lm_L_w_szInt64SS_1)]
theorem rd_L_w_szInt64SS_1 (rec' : ((List (List Int)) × Int × Int × Int × Unit) × (Unit) → Option (Bool × ((Int × Int × Unit) × (Unit)))) (a : (List (List Int))) (left : Int) (t4 : Int) (i : Int) : round E_w_szInt64SS (lookL ll_w_szInt64SS) lm_L_w_szInt64SS_1 27 (loopAt Try.f61 0) rec' ((a, left, t4, i, ()), (())) = L_w_szInt64SS_1 rec' ((a, left, t4, i, ()), (())) := by kernel_rfl
theorem lo_w_szInt64SS : Loops E_w_szInt64SS (lookL ll_w_szInt64SS) Try.f61 := Loops.list (by kernel_rfl) (by kernel_rfl) ⟨LoopOK.iter (step := L_w_szInt64SS_1) (N := fun _ => fuel) (fun rec' x => by obtain ⟨⟨a, left, t4, i, ⟨⟩⟩, ⟨⟨⟩⟩⟩ := x; exact rd_L_w_szInt64SS_1 rec' a left t4 i) fun _ => rfl, trivial⟩
theorem ev_w_szInt64SS (a : (List (List Int))) (left : Int) : evalF E_w_szInt64SS (lookL ll_w_szInt64SS) Try.f61 [.ro false (.slice (.slice (.int .i64))), .ro false (.int .i64)] (.one false (.int .i64)) (a, left, ()) = g_w_szInt64SS a left := by kernel_rfl
def m_w_szInt64SS : FM := { ps := [.ro false (.slice (.slice (.int .i64))), .ro false (.int .i64)], res := .one false (.int .i64), run := fun x => g_w_szInt64SS x.1 x.2.1 }
set_option maxRecDepth 4000 in
theorem ok_w_szInt64SS : FmOK Try.prog 61 m_w_szInt64SS := @FmOK.made Try.prog E_w_szInt64SS ek_w_szInt64SS 61 Try.f61 (lookL ll_w_szInt64SS) m_w_szInt64SS Try.func61 (by kernel_rfl) lo_w_szInt64SS fun ds out _ hr => by obtain ⟨a, left, ⟨⟩⟩ := ds; exact (ev_w_szInt64SS a left).trans hr

def E_w_toInt64S : Tabs := (mkE tab [] [])
set_option maxRecDepth 4000 in
theorem ek_w_toInt64S : EnvOK Try.prog E_w_toInt64S := (mkE_ok tab_ok mixed AllF.nil AllX.nil)
def lm_L_w_toInt64S_1 : LM := { mat := [], head := { slots := [(0, .dat false (.slice (.int .i64))), (3, .cst (.sl (.row 0))), (4, .dat false (.int .i64))], blks := [.row false (.int .i64)] }, out := { slots := [(3, .cst (.sl (.row 0)))], blks := [.row false (.int .i64)] }, ex := 0, rets := false, run := iter L_w_toInt64S_1 fuel }
def ll_w_toInt64S : List (Nat × LP) := [(3, .lm lm_L_w_toInt64S_1)]
theorem rd_L_w_toInt64S_1 (rec' : ((List Int) × Int × Unit) × ((List Int) × Unit) → Option ((Unit) × ((List Int) × Unit))) (a : (List Int)) (i : Int) (r0 : (List Int)) : round E_w_toInt64S (lookL ll_w_toInt64S) lm_L_w_toInt64S_1 22 (loopAt Try.f113 0) rec' ((a, i, ()), (r0, ())) = L_w_toInt64S_1 rec' ((a, i, ()), (r0, ())) := by kernel_rfl
theorem lo_w_toInt64S : Loops E_w_toInt64S (lookL ll_w_toInt64S) Try.f113 := Loops.list (by kernel_rfl) (by kernel_rfl) ⟨LoopOK.iter (step := L_w_toInt64S_1) (N := fun _ => fuel) (fun rec' x => by obtain ⟨⟨a, i, ⟨⟩⟩, ⟨r0, ⟨⟩⟩⟩ := x; exact rd_L_w_toInt64S_1 rec' a i r0) fun _ => rfl, trivial⟩
theorem ev_w_toInt64S (a : (List Int)) : evalF E_w_toInt64S (lookL ll_w_toInt64S) Try.f113 [.ro false (.slice (.int .i64))] (.one false (.slice (.int .i64))) (a, ()) = g_w_toInt64S a := by kernel_rfl
def m_w_toInt64S : FM := { ps := [.ro false (.slice (.int .i64))], res := .one false (.slice (.int .i64)), run := fun x => g_w_toInt64S x.1 }
set_option maxRecDepth 4000 in
theorem ok_w_toInt64S : FmOK Try.prog 113 m_w_toInt64S := @FmOK.made Try.prog E_w_toInt64S ek_w_toInt64S 113 Try.f113 (lookL ll_w_toInt64S) m_w_toInt64S Try.func113 (by kernel_rfl) lo_w_toInt64S fun ds out _ hr => by obtain ⟨a, ⟨⟩⟩ := ds; exact (ev_w_toInt64S a).trans hr

def E_w_toInt64SS : Tabs := (mkE tab [(113, m_w_toInt64S)] [])
set_option maxRecDepth 4000 in
theorem ek_w_toInt64SS : EnvOK Try.prog E_w_toInt64SS := (mkE_ok tab_ok mixed (AllF.cons ok_w_toInt64S AllF.nil) AllX.nil)
def lm_L_w_toInt64SS_1 : LM := { mat := [], head := { slots := [(0, .dat false (.slice (.slice (.int .i64)))), (3, .cst (.sl (.row 0))), (4, .dat false (.int .i64))], blks := [.row false (.slice (.int .i64))] }, out := { slots := [(3, .cst (.sl (.row 0)))], blks := [.row false (.slice (.int .i64))] }, ex := 0, rets := false, run := iter L_w_toInt64SS_1 fuel }
def ll_w_toInt64SS : List (Nat × LP) := [(3, .lm lm_L_w_toInt64SS_1)]
theorem rd_L_w_toInt64SS_1 (rec' : ((List (List Int)) × Int × Unit) × ((List (List Int)) × Unit) → Option ((Unit) × ((List (List Int)) × Unit))) (a : (List (List Int))) (i : Int) (r0 : (List (List Int))) : round E_w_toInt64SS (lookL ll_w_toInt64SS) lm_L_w_toInt64SS_1 23 (loopAt Try.f63 0) rec' ((a, i, ()), (r0, ())) = L_w_toInt64SS_1 rec' ((a, i, ()), (r0, ())) := by kernel_rfl
theorem lo_w_toInt64SS : Loops E_w_toInt64SS (lookL ll_w_toInt64SS) Try.f63 := Loops.list (by kernel_rfl) (by kernel_rfl) ⟨LoopOK.iter (step := L_w_toInt64SS_1) (N := fun _ => fuel) (fun rec' x => by obtain ⟨⟨a, i, ⟨⟩⟩, ⟨r0, ⟨⟩⟩⟩ := x; exact rd_L_w_toInt64SS_1 rec' a i r0) fun _ => rfl, trivial⟩
theorem ev_w_toInt64SS (a : (List (List Int))) : evalF E_w_toInt64SS (lookL ll_w_toInt64SS) Try.f63 [.ro false (.slice (.slice (.int .i64)))] (.one false (.slice (.slice (.int .i64)))) (a, ()) = g_w_toInt64SS a := by kernel_rfl
def m_w_toInt64SS : FM := { ps := [.ro false (.slice (.slice (.int .i64)))], res := .one false (.slice (.slice (.int .i64))), run := fun x => g_w_toInt64SS x.1 }
set_option maxRecDepth 4000 in
theorem ok_w_toInt64SS : FmOK Try.prog 63 m_w_toInt64SS := @FmOK.made Try.prog E_w_toInt64SS ek_w_toInt64SS 63 Try.f63 (lookL ll_w_toInt64SS) m_w_toInt64SS Try.func63 (by kernel_rfl) lo_w_toInt64SS fun ds out _ hr => by obtain ⟨a, ⟨⟩⟩ := ds; exact (ev_w_toInt64SS a).trans hr

def E_s_EdgesOf : Tabs := (mkE tab [(77, m_s_l00In), (93, m_s_l01Less), (92, m_s_l01Long)] [])
set_option maxRecDepth 4000 in
theorem ek_s_EdgesOf : EnvOK Try.prog E_s_EdgesOf := (mkE_ok tab_ok mixed (AllF.cons ok_s_l00In (AllF.cons ok_s_l01Less (AllF.cons ok_s_l01Long AllF.nil))) AllX.nil)
def lm_L_s_EdgesOf_1 : LM := { mat := [], head := { slots := [(0, .dat false (.slice tVec)), (1, .dat false (.slice (.slice (.int .i64)))), (4, .cst (.sl .nil)), (5, .dat false .bool), (6, .dat false (.int .i64)), (7, .cst (.sl (.row 0))), (20, .dat false (.int .i64)), (21, .dat false (.int .i64))], blks := [.row false (.flt .f32)] }, out := { slots := [(4, .cst (.sl .nil)), (5, .dat false .bool), (7, .cst (.sl (.row 0)))], blks := [.row false (.flt .f32)] }, ex := 0, rets := true, run := iter L_s_EdgesOf_1 fuel }
def ll_s_EdgesOf : List (Nat × LP) := [(6, .lm lm_L_s_EdgesOf_1)]
theorem rd_L_s_EdgesOf_1 (rec' : ((List dVec) × (List (List Int)) × Bool × Int × Int × Int × Unit) × ((List Nat) × Unit) → Option (Bool × ((Bool × Unit) × ((List Nat) × Unit)))) (places : (List dVec)) (pairs : (List (List Int))) (t5 : Bool) (n : Int) (t20 : Int) (t21 : Int) (r0 : (List Nat)) : round E_s_EdgesOf (lookL ll_s_EdgesOf) lm_L_s_EdgesOf_1 79 (loopAt Try.f62 0) rec' ((places, pairs, t5, n, t20, t21, ()), (r0, ())) = L_s_EdgesOf_1 rec' ((places, pairs, t5, n, t20, t21, ()), (r0, ())) := by kernel_rfl
theorem lo_s_EdgesOf : Loops E_s_EdgesOf (lookL ll_s_EdgesOf) Try.f62 := Loops.list (by kernel_rfl) (by kernel_rfl) ⟨LoopOK.iter (step := L_s_EdgesOf_1) (N := fun _ => fuel) (fun rec' x => by obtain ⟨⟨places, pairs, t5, n, t20, t21, ⟨⟩⟩, ⟨r0, ⟨⟩⟩⟩ := x; exact rd_L_s_EdgesOf_1 rec' places pairs t5 n t20 t21 r0) fun _ => rfl, trivial⟩
theorem ev_s_EdgesOf (places : (List dVec)) (pairs : (List (List Int))) : evalF E_s_EdgesOf (lookL ll_s_EdgesOf) Try.f62 [.ro false (.slice tVec), .ro false (.slice (.slice (.int .i64)))] (.tup [(false, (.slice (.flt .f32))), (false, .bool)]) (places, pairs, ()) = g_s_EdgesOf places pairs := by kernel_rfl
def m_s_EdgesOf : FM := { ps := [.ro false (.slice tVec), .ro false (.slice (.slice (.int .i64)))], res := .tup [(false, (.slice (.flt .f32))), (false, .bool)], run := fun x => g_s_EdgesOf x.1 x.2.1 }
set_option maxRecDepth 4000 in
theorem ok_s_EdgesOf : FmOK Try.prog 62 m_s_EdgesOf := @FmOK.made Try.prog E_s_EdgesOf ek_s_EdgesOf 62 Try.f62 (lookL ll_s_EdgesOf) m_s_EdgesOf Try.func62 (by kernel_rfl) lo_s_EdgesOf fun ds out _ hr => by obtain ⟨places, pairs, ⟨⟩⟩ := ds; exact (ev_s_EdgesOf places pairs).trans hr

def E_i_EdgesOf_1 : Tabs := (mkE tab [] [])
set_option maxRecDepth 4000 in
theorem ek_i_EdgesOf_1 : EnvOK Try.prog E_i_EdgesOf_1 := (mkE_ok tab_ok mixed AllF.nil AllX.nil)
theorem ev_i_EdgesOf_1 (k : Int) (p1 : (List dVec)) : evalF E_i_EdgesOf_1 noL Try.f115 [.ro false (.int .i64), .rptr (.slice tVec)] (.one false .bool) (k, p1, ()) = g_i_EdgesOf_1 k p1 := by kernel_rfl
def m_i_EdgesOf_1 : FM := { ps := [.ro false (.int .i64), .rptr (.slice tVec)], res := .one false .bool, run := fun x => some (t_i_EdgesOf_1 x.1 x.2.1) }
set_option maxRecDepth 4000 in
theorem ok_i_EdgesOf_1 : FmOK Try.prog 115 m_i_EdgesOf_1 := @FmOK.made Try.prog E_i_EdgesOf_1 ek_i_EdgesOf_1 115 Try.f115 noL m_i_EdgesOf_1 Try.func115 (by kernel_rfl) (Loops.none (by kernel_rfl)) fun ds out _ hr => by obtain ⟨k, p1, ⟨⟩⟩ := ds; exact (ev_i_EdgesOf_1 k p1).trans ((q_i_EdgesOf_1 k p1).trans hr)

def E_slices_IndexFunc_int64_int64 : Tabs := (mkE tab [(115, m_i_EdgesOf_1)] [])
set_option maxRecDepth 4000 in
theorem ek_slices_IndexFunc_int64_int64 : EnvOK Try.prog E_slices_IndexFunc_int64_int64 := (mkE_ok tab_ok mixed (AllF.cons ok_i_EdgesOf_1 AllF.nil) AllX.nil)
def lm_L_slices_IndexFunc_int64_int64_1 : LM := { mat := [], head := { slots := [(0, .dat false (.slice (.int .i64))), (1, .fnc 115 [(.slice tVec)]), (4, .dat false (.int .i64)), (7, .dat false (.int .i64)), (8, .dat false (.int .i64))], blks := [] }, out := { slots := [(4, .dat false (.int .i64))], blks := [] }, ex := 0, rets := true, run := iter L_slices_IndexFunc_int64_int64_1 fuel }
def ll_slices_IndexFunc_int64_int64 : List (Nat × LP) := [(2, .lm lm_L_slices_IndexFunc_int64_int64_1)]
theorem rd_L_slices_IndexFunc_int64_int64_1 (rec' : ((List Int) × ((List dVec) × Unit) × Int × Int × Int × Unit) × (Unit) → Option (Bool × ((Int × Unit) × (Unit)))) (s : (List Int)) (f : ((List dVec) × Unit)) (t4 : Int) (t7 : Int) (t8 : Int) : round E_slices_IndexFunc_int64_int64 (lookL ll_slices_IndexFunc_int64_int64) lm_L_slices_IndexFunc_int64_int64_1 19 (loopAt Try.f133 0) rec' ((s, f, t4, t7, t8, ()), (())) = L_slices_IndexFunc_int64_int64_1 rec' ((s, f, t4, t7, t8, ()), (())) := by kernel_rfl
theorem lo_slices_IndexFunc_int64_int64 : Loops E_slices_IndexFunc_int64_int64 (lookL ll_slices_IndexFunc_int64_int64) Try.f133 := Loops.list (by kernel_rfl) (by kernel_rfl) ⟨LoopOK.iter (step := L_slices_IndexFunc_int64_int64_1) (N := fun _ => fuel) (fun rec' x => by obtain ⟨⟨s, f, t4, t7, t8, ⟨⟩⟩, ⟨⟨⟩⟩⟩ := x; exact rd_L_slices_IndexFunc_int64_int64_1 rec' s f t4 t7 t8) fun _ => rfl, trivial⟩
theorem ev_slices_IndexFunc_int64_int64 (s : (List Int)) (f : ((List dVec) × Unit)) : evalF E_slices_IndexFunc_int64_int64 (lookL ll_slices_IndexFunc_int64_int64) Try.f133 [.ro false (.slice (.int .i64)), .fnc 115 [(.slice tVec)]] (.one false (.int .i64)) (s, f, ()) = g_slices_IndexFunc_int64_int64 s f := by kernel_rfl
def m_slices_IndexFunc_int64_int64 : FM := { ps := [.ro false (.slice (.int .i64)), .fnc 115 [(.slice tVec)]], res := .one false (.int .i64), run := fun x => g_slices_IndexFunc_int64_int64 x.1 x.2.1 }
set_option maxRecDepth 4000 in
theorem ok_slices_IndexFunc_int64_int64 : FmOK Try.prog 133 m_slices_IndexFunc_int64_int64 := @FmOK.made Try.prog E_slices_IndexFunc_int64_int64 ek_slices_IndexFunc_int64_int64 133 Try.f133 (lookL ll_slices_IndexFunc_int64_int64) m_slices_IndexFunc_int64_int64 Try.func133 (by kernel_rfl) lo_slices_IndexFunc_int64_int64 fun ds out _ hr => by obtain ⟨s, f, ⟨⟩⟩ := ds; exact (ev_slices_IndexFunc_int64_int64 s f).trans hr

def E_slices_ContainsFunc_int64_int64 : Tabs := (mkE tab [(133, m_slices_IndexFunc_int64_int64)] [])
set_option maxRecDepth 4000 in
theorem ek_slices_ContainsFunc_int64_int64 : EnvOK Try.prog E_slices_ContainsFunc_int64_int64 := (mkE_ok tab_ok mixed (AllF.cons ok_slices_IndexFunc_int64_int64 AllF.nil) AllX.nil)
theorem ev_slices_ContainsFunc_int64_int64 (s : (List Int)) (f : ((List dVec) × Unit)) : evalF E_slices_ContainsFunc_int64_int64 noL Try.f114 [.ro false (.slice (.int .i64)), .fnc 115 [(.slice tVec)]] (.one false .bool) (s, f, ()) = g_slices_ContainsFunc_int64_int64 s f := by kernel_rfl
def m_slices_ContainsFunc_int64_int64 : FM := { ps := [.ro false (.slice (.int .i64)), .fnc 115 [(.slice tVec)]], res := .one false .bool, run := fun x => g_slices_ContainsFunc_int64_int64 x.1 x.2.1 }
set_option maxRecDepth 4000 in
theorem ok_slices_ContainsFunc_int64_int64 : FmOK Try.prog 114 m_slices_ContainsFunc_int64_int64 := @FmOK.made Try.prog E_slices_ContainsFunc_int64_int64 ek_slices_ContainsFunc_int64_int64 114 Try.f114 noL m_slices_ContainsFunc_int64_int64 Try.func114 (by kernel_rfl) (Loops.none (by kernel_rfl)) fun ds out _ hr => by obtain ⟨s, f, ⟨⟩⟩ := ds; exact (ev_slices_ContainsFunc_int64_int64 s f).trans hr

def E_i_EdgesOf : Tabs := (mkE tab [(114, m_slices_ContainsFunc_int64_int64), (95, m_i_LessVectors), (94, m_i_LongOf)] [])
set_option maxRecDepth 4000 in
theorem ek_i_EdgesOf : EnvOK Try.prog E_i_EdgesOf := (mkE_ok tab_ok mixed (AllF.cons ok_slices_ContainsFunc_int64_int64 (AllF.cons ok_i_LessVectors (AllF.cons ok_i_LongOf AllF.nil))) AllX.nil)
def lm_L_i_EdgesOf_1 : LM := { mat := [], head := { slots := [(2, .cst (.ptr (.box 0 0))), (4, .cst (.sl .nil)), (5, .dat false .bool), (6, .cst (.sl (.row 1))), (20, .dat false (.slice (.slice (.int .i64)))), (21, .dat false (.int .i64)), (22, .dat false (.int .i64))], blks := [.box [.dat (.slice tVec)], .row false (.flt .f32)] }, out := { slots := [(4, .cst (.sl .nil)), (5, .dat false .bool), (6, .cst (.sl (.row 1)))], blks := [.dead, .row false (.flt .f32)] }, ex := 0, rets := true, run := iter L_i_EdgesOf_1 fuel }
def ll_i_EdgesOf : List (Nat × LP) := [(5, .lm lm_L_i_EdgesOf_1)]
theorem rd_L_i_EdgesOf_1 (rec' : (Bool × (List (List Int)) × Int × Int × Unit) × (((List dVec) × Unit) × (List Nat) × Unit) → Option (Bool × ((Bool × Unit) × ((List Nat) × Unit)))) (t5 : Bool) (t20 : (List (List Int))) (t21 : Int) (t22 : Int) (b0 : (List dVec)) (r1 : (List Nat)) : round E_i_EdgesOf (lookL ll_i_EdgesOf) lm_L_i_EdgesOf_1 54 (loopAt Try.f64 0) rec' ((t5, t20, t21, t22, ()), ((b0, ()), r1, ())) = L_i_EdgesOf_1 rec' ((t5, t20, t21, t22, ()), ((b0, ()), r1, ())) := by kernel_rfl
theorem lo_i_EdgesOf : Loops E_i_EdgesOf (lookL ll_i_EdgesOf) Try.f64 := Loops.list (by kernel_rfl) (by kernel_rfl) ⟨LoopOK.iter (step := L_i_EdgesOf_1) (N := fun _ => fuel) (fun rec' x => by obtain ⟨⟨t5, t20, t21, t22, ⟨⟩⟩, ⟨⟨b0, ⟨⟩⟩, r1, ⟨⟩⟩⟩ := x; exact rd_L_i_EdgesOf_1 rec' t5 t20 t21 t22 b0 r1) fun _ => rfl, trivial⟩
theorem ev_i_EdgesOf (places : (List dVec)) (pairs : (List (List Int))) : evalF E_i_EdgesOf (lookL ll_i_EdgesOf) Try.f64 [.ro false (.slice tVec), .ro false (.slice (.slice (.int .i64)))] (.tup [(false, (.slice (.flt .f32))), (false, .bool)]) (places, pairs, ()) = g_i_EdgesOf places pairs := by kernel_rfl
def m_i_EdgesOf : FM := { ps := [.ro false (.slice tVec), .ro false (.slice (.slice (.int .i64)))], res := .tup [(false, (.slice (.flt .f32))), (false, .bool)], run := fun x => g_i_EdgesOf x.1 x.2.1 }
set_option maxRecDepth 4000 in
theorem ok_i_EdgesOf : FmOK Try.prog 64 m_i_EdgesOf := @FmOK.made Try.prog E_i_EdgesOf ek_i_EdgesOf 64 Try.f64 (lookL ll_i_EdgesOf) m_i_EdgesOf Try.func64 (by kernel_rfl) lo_i_EdgesOf fun ds out _ hr => by obtain ⟨places, pairs, ⟨⟩⟩ := ds; exact (ev_i_EdgesOf places pairs).trans hr

def E_w_markVectorS : Tabs := (mkE tab [] [])
set_option maxRecDepth 4000 in
theorem ek_w_markVectorS : EnvOK Try.prog E_w_markVectorS := (mkE_ok tab_ok mixed AllF.nil AllX.nil)
def lm_L_w_markVectorS_1 : LM := { mat := [], head := { slots := [(0, .cst (.sl (.row 0))), (1, .dat false (.int .i64)), (5, .dat false (.int .i64))], blks := [.row true tVec] }, out := { slots := [(1, .dat false (.int .i64))], blks := [.row true tVec] }, ex := 0, rets := false, run := iter L_w_markVectorS_1 fuel }
def ll_w_markVectorS : List (Nat × LP) := [(2, .lm lm_L_w_markVectorS_1)]
theorem rd_L_w_markVectorS_1 (rec' : (Int × Int × Unit) × ((List dVec) × Unit) → Option ((Int × Unit) × ((List dVec) × Unit))) (k : Int) (i : Int) (r0 : (List dVec)) : round E_w_markVectorS (lookL ll_w_markVectorS) lm_L_w_markVectorS_1 37 (loopAt Try.f65 0) rec' ((k, i, ()), (r0, ())) = L_w_markVectorS_1 rec' ((k, i, ()), (r0, ())) := by kernel_rfl
theorem lo_w_markVectorS : Loops E_w_markVectorS (lookL ll_w_markVectorS) Try.f65 := Loops.list (by kernel_rfl) (by kernel_rfl) ⟨LoopOK.iter (step := L_w_markVectorS_1) (N := fun _ => fuel) (fun rec' x => by obtain ⟨⟨k, i, ⟨⟩⟩, ⟨r0, ⟨⟩⟩⟩ := x; exact rd_L_w_markVectorS_1 rec' k i r0) fun _ => rfl, trivial⟩
theorem ev_w_markVectorS (a : (List dVec)) (k : Int) : evalX E_w_markVectorS (lookL ll_w_markVectorS) Try.f65 [.own false (.slice tVec), .ro false (.int .i64)] (.one false (.int .i64)) (a, k, ()) = g_w_markVectorS a k := by kernel_rfl
def m_w_markVectorS : FX := { ps := [.own false (.slice tVec), .ro false (.int .i64)], res := .one false (.int .i64), run := fun x => g_w_markVectorS x.1 x.2.1 }
set_option maxRecDepth 4000 in
theorem ok_w_markVectorS : FxOK Try.prog 65 m_w_markVectorS := @FxOK.made Try.prog E_w_markVectorS ek_w_markVectorS 65 Try.f65 (lookL ll_w_markVectorS) m_w_markVectorS Try.func65 (by kernel_rfl) lo_w_markVectorS fun ds out _ hr => by obtain ⟨a, k, ⟨⟩⟩ := ds; exact (ev_w_markVectorS a k).trans hr

def E_w_FnExactEdgesOf : Tabs := (mkE tab [(19, m_w_szVectorS), (61, m_w_szInt64SS), (21, m_w_toVectorS), (63, m_w_toInt64SS), (62, m_s_EdgesOf), (64, m_i_EdgesOf), (18, m_w_eqFloat32S), (24, m_w_eqVectorS), (27, m_w_eqInt64SS), (33, m_w_heldFloat32S)] [(65, m_w_markVectorS), (28, m_w_markInt64SS), (32, m_w_markFloat32S)])
set_option maxRecDepth 4000 in
theorem ek_w_FnExactEdgesOf : EnvOK Try.prog E_w_FnExactEdgesOf := (mkE_ok tab_ok mixed (AllF.cons ok_w_szVectorS (AllF.cons ok_w_szInt64SS (AllF.cons ok_w_toVectorS (AllF.cons ok_w_toInt64SS (AllF.cons ok_s_EdgesOf (AllF.cons ok_i_EdgesOf (AllF.cons ok_w_eqFloat32S (AllF.cons ok_w_eqVectorS (AllF.cons ok_w_eqInt64SS (AllF.cons ok_w_heldFloat32S AllF.nil)))))))))) (AllX.cons ok_w_markVectorS (AllX.cons ok_w_markInt64SS (AllX.cons ok_w_markFloat32S AllX.nil))))
theorem ev_w_FnExactEdgesOf (aPlaces : (List dVec)) (aPairs : (List (List Int))) : evalF E_w_FnExactEdgesOf noL Try.f13 [.ro false (.slice tVec), .ro false (.slice (.slice (.int .i64)))] (.one false .bool) (aPlaces, aPairs, ()) = g_w_FnExactEdgesOf aPlaces aPairs := by kernel_rfl
def m_w_FnExactEdgesOf : FM := { ps := [.ro false (.slice tVec), .ro false (.slice (.slice (.int .i64)))], res := .one false .bool, run := fun x => g_w_FnExactEdgesOf x.1 x.2.1 }
set_option maxRecDepth 4000 in
theorem ok_w_FnExactEdgesOf : FmOK Try.prog 13 m_w_FnExactEdgesOf := @FmOK.made Try.prog E_w_FnExactEdgesOf ek_w_FnExactEdgesOf 13 Try.f13 noL m_w_FnExactEdgesOf Try.func13 (by kernel_rfl) (Loops.none (by kernel_rfl)) fun ds out _ hr => by obtain ⟨aPlaces, aPairs, ⟨⟩⟩ := ds; exact (ev_w_FnExactEdgesOf aPlaces aPairs).trans hr

def E_s_HangString : Tabs := (mkE tab [(77, m_s_l00In)] [])
set_option maxRecDepth 4000 in
theorem ek_s_HangString : EnvOK Try.prog E_s_HangString := (mkE_ok tab_ok mixed (AllF.cons ok_s_l00In AllF.nil) AllX.nil)
def lm_L_s_HangString_1 : LM := { mat := [], head := { slots := [(1, .dat false (.int .i64)), (2, .dat false (.flt .f32)), (3, .cst (.ptr (.box 0 0))), (6, .cst (.ptr (.box 1 0))), (8, .cst (.ptr (.box 5 0))), (9, .dat false (.int .i64))], blks := [.box [.dat tVec], .box [.cst (.sl .nil), .cst (.sl .nil), .cst (.sl .nil), .cst (.sl .nil), .dat (.pair tVec (.pair (.flt .f32) (.pair (.int .i64) .unit)))], .row false tVec, .row false .bool, .row false (.flt .f32), .box [.cst (.sl (.row 2)), .cst (.sl .nil), .cst (.sl (.row 3)), .cst (.sl (.row 4)), .dat (.pair tVec (.pair (.flt .f32) (.pair (.int .i64) .unit)))]] }, out := { slots := [(6, .cst (.ptr (.box 1 0))), (8, .cst (.ptr (.box 5 0)))], blks := [.dead, .box [.cst (.sl .nil), .cst (.sl .nil), .cst (.sl .nil), .cst (.sl .nil), .dat (.pair tVec (.pair (.flt .f32) (.pair (.int .i64) .unit)))], .row false tVec, .row false .bool, .row false (.flt .f32), .box [.cst (.sl (.row 2)), .cst (.sl .nil), .cst (.sl (.row 3)), .cst (.sl (.row 4)), .dat (.pair tVec (.pair (.flt .f32) (.pair (.int .i64) .unit)))]] }, ex := 0, rets := false, run := iter L_s_HangString_1 fuel }
def ll_s_HangString : List (Nat × LP) := [(5, .lm lm_L_s_HangString_1)]
theorem rd_L_s_HangString_1 (rec' : (Int × Nat × Int × Unit) × ((dVec × Unit) × ((dVec × (Nat × (Int × Unit))) × Unit) × (List dVec) × (List Bool) × (List Nat) × ((dVec × (Nat × (Int × Unit))) × Unit) × Unit) → Option ((Unit) × (((dVec × (Nat × (Int × Unit))) × Unit) × (List dVec) × (List Bool) × (List Nat) × ((dVec × (Nat × (Int × Unit))) × Unit) × Unit))) (count : Int) (length : Nat) (i : Int) (b0 : dVec) (b1 : (dVec × (Nat × (Int × Unit)))) (r2 : (List dVec)) (r3 : (List Bool)) (r4 : (List Nat)) (b5 : (dVec × (Nat × (Int × Unit)))) : round E_s_HangString (lookL ll_s_HangString) lm_L_s_HangString_1 52 (loopAt Try.f66 0) rec' ((count, length, i, ()), ((b0, ()), (b1, ()), r2, r3, r4, (b5, ()), ())) = L_s_HangString_1 rec' ((count, length, i, ()), ((b0, ()), (b1, ()), r2, r3, r4, (b5, ()), ())) := by kernel_rfl
theorem lo_s_HangString : Loops E_s_HangString (lookL ll_s_HangString) Try.f66 := Loops.list (by kernel_rfl) (by kernel_rfl) ⟨LoopOK.iter (step := L_s_HangString_1) (N := fun _ => fuel) (fun rec' x => by obtain ⟨⟨count, length, i, ⟨⟩⟩, ⟨⟨b0, ⟨⟩⟩, ⟨b1, ⟨⟩⟩, r2, r3, r4, ⟨b5, ⟨⟩⟩, ⟨⟩⟩⟩ := x; exact rd_L_s_HangString_1 rec' count length i b0 b1 r2 r3 r4 b5) fun _ => rfl, trivial⟩
theorem ev_s_HangString (fromx : dVec) (count : Int) (length : Nat) : evalF E_s_HangString (lookL ll_s_HangString) Try.f66 [.ro true tVec, .ro false (.int .i64), .ro false (.flt .f32)] (.tup [(true, tString), (false, .bool)]) (fromx, count, length, ()) = g_s_HangString fromx count length := by kernel_rfl
def m_s_HangString : FM := { ps := [.ro true tVec, .ro false (.int .i64), .ro false (.flt .f32)], res := .tup [(true, tString), (false, .bool)], run := fun x => g_s_HangString x.1 x.2.1 x.2.2.1 }
set_option maxRecDepth 4000 in
theorem ok_s_HangString : FmOK Try.prog 66 m_s_HangString := @FmOK.made Try.prog E_s_HangString ek_s_HangString 66 Try.f66 (lookL ll_s_HangString) m_s_HangString Try.func66 (by kernel_rfl) lo_s_HangString fun ds out _ hr => by obtain ⟨fromx, count, length, ⟨⟩⟩ := ds; exact (ev_s_HangString fromx count length).trans hr

def E_math_bits_Mul64 : Tabs := (mkE tab [] [])
set_option maxRecDepth 4000 in
theorem ek_math_bits_Mul64 : EnvOK Try.prog E_math_bits_Mul64 := (mkE_ok tab_ok mixed AllF.nil AllX.nil)
theorem ev_math_bits_Mul64 (xx : Int) (y : Int) : evalF E_math_bits_Mul64 noL Try.f140 [.ro false (.int .u64), .ro false (.int .u64)] (.tup [(false, (.int .u64)), (false, (.int .u64))]) (xx, y, ()) = g_math_bits_Mul64 xx y := by kernel_rfl
def m_math_bits_Mul64 : FM := { ps := [.ro false (.int .u64), .ro false (.int .u64)], res := .tup [(false, (.int .u64)), (false, (.int .u64))], run := fun x => some (t_math_bits_Mul64 x.1 x.2.1) }
set_option maxRecDepth 4000 in
theorem ok_math_bits_Mul64 : FmOK Try.prog 140 m_math_bits_Mul64 := @FmOK.made Try.prog E_math_bits_Mul64 ek_math_bits_Mul64 140 Try.f140 noL m_math_bits_Mul64 Try.func140 (by kernel_rfl) (Loops.none (by kernel_rfl)) fun ds out _ hr => by obtain ⟨xx, y, ⟨⟩⟩ := ds; exact (ev_math_bits_Mul64 xx y).trans ((q_math_bits_Mul64 xx y).trans hr)

def E_math_bits_Mul : Tabs := (mkE tab [(140, m_math_bits_Mul64)] [])
set_option maxRecDepth 4000 in
theorem ek_math_bits_Mul : EnvOK Try.prog E_math_bits_Mul := (mkE_ok tab_ok mixed (AllF.cons ok_math_bits_Mul64 AllF.nil) AllX.nil)
theorem ev_math_bits_Mul (xx : Int) (y : Int) : evalF E_math_bits_Mul noL Try.f134 [.ro false (.int .u64), .ro false (.int .u64)] (.tup [(false, (.int .u64)), (false, (.int .u64))]) (xx, y, ()) = g_math_bits_Mul xx y := by kernel_rfl
def m_math_bits_Mul : FM := { ps := [.ro false (.int .u64), .ro false (.int .u64)], res := .tup [(false, (.int .u64)), (false, (.int .u64))], run := fun x => some (t_math_bits_Mul x.1 x.2.1) }
set_option maxRecDepth 4000 in
theorem ok_math_bits_Mul : FmOK Try.prog 134 m_math_bits_Mul := @FmOK.made Try.prog E_math_bits_Mul ek_math_bits_Mul 134 Try.f134 noL m_math_bits_Mul Try.func134 (by kernel_rfl) (Loops.none (by kernel_rfl)) fun ds out _ hr => by obtain ⟨xx, y, ⟨⟩⟩ := ds; exact (ev_math_bits_Mul xx y).trans ((q_math_bits_Mul xx y).trans hr)
end Go.Fw.A
