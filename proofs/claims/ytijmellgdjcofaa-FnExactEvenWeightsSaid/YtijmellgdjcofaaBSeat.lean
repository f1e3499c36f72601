/- The functions of the translation compute what the plain functions compute. No condition. -/
import Derived.Test.YtijmellgdjcofaaBPure
import Derived.Test.YtijmellgdjcofaaProg
import Derived.KernelRfl
set_option linter.unusedVariables false
namespace Go.Fw.B
open Go.Fw Go.Proofs Go.RowKit
noncomputable section
def tab : List (Nat × TI) := [
  (2, { und := .int .i64, size := 1, bytes := 8, zero := [.int .i64 0], ty := (.int .i64) }),
  (3, { und := .int .i64, size := 1, bytes := 8, zero := [.int .i64 0], ty := (.int .i64) }),
  (4, { und := .bool, size := 1, bytes := 1, zero := [.bool false], ty := .bool }),
  (22, { und := .slice 75, size := 1, bytes := 24, zero := [.sl .nil], ty := (.slice tPose) }),
  (24, { und := .struct [(0, 2), (1, 22)], size := 2, bytes := 32, zero := [.int .i64 0, .sl .nil], ty := tRec }),
  (27, { und := .slice 81, size := 1, bytes := 24, zero := [.sl .nil], ty := (.slice tPose) }),
  (29, { und := .struct [(0, 2), (1, 27)], size := 2, bytes := 32, zero := [.int .i64 0, .sl .nil], ty := tRec }),
  (32, { und := .slice 37, size := 1, bytes := 24, zero := [.sl .nil], ty := (.slice tVec) }),
  (33, { und := .slice 4, size := 1, bytes := 24, zero := [.sl .nil], ty := (.slice .bool) }),
  (34, { und := .slice 35, size := 1, bytes := 24, zero := [.sl .nil], ty := (.slice (.flt .f32)) }),
  (35, { und := .flt .f32, size := 1, bytes := 4, zero := [.flt .f32 0], ty := (.flt .f32) }),
  (37, { und := .struct [(0, 35), (1, 35), (2, 35)], size := 3, bytes := 12, zero := [.flt .f32 0, .flt .f32 0, .flt .f32 0], ty := tVec }),
  (39, { und := .struct [(0, 32), (1, 32), (2, 33), (3, 34), (4, 37), (7, 35), (8, 2)], size := 9, bytes := 120, zero := [.sl .nil, .sl .nil, .sl .nil, .sl .nil, .flt .f32 0, .flt .f32 0, .flt .f32 0, .flt .f32 0, .int .i64 0], ty := tString }),
  (42, { und := .slice 43, size := 1, bytes := 24, zero := [.sl .nil], ty := (.slice tVec) }),
  (43, { und := .struct [(0, 35), (1, 35), (2, 35)], size := 3, bytes := 12, zero := [.flt .f32 0, .flt .f32 0, .flt .f32 0], ty := tVec }),
  (45, { und := .struct [(0, 42), (1, 42), (2, 33), (3, 34), (4, 43), (7, 35), (8, 2)], size := 9, bytes := 120, zero := [.sl .nil, .sl .nil, .sl .nil, .sl .nil, .flt .f32 0, .flt .f32 0, .flt .f32 0, .flt .f32 0, .int .i64 0], ty := tString }),
  (48, { und := .slice 185, size := 1, bytes := 24, zero := [.sl .nil], ty := (.slice tRootKey) }),
  (50, { und := .struct [(0, 48)], size := 1, bytes := 24, zero := [.sl .nil], ty := tSkel }),
  (51, { und := .slice 129, size := 1, bytes := 24, zero := [.sl .nil], ty := (.slice tSkinPoint) }),
  (55, { und := .slice 181, size := 1, bytes := 24, zero := [.sl .nil], ty := (.slice tRootKey) }),
  (57, { und := .struct [(0, 55)], size := 1, bytes := 24, zero := [.sl .nil], ty := tSkel }),
  (59, { und := .slice 135, size := 1, bytes := 24, zero := [.sl .nil], ty := (.slice tSkinPoint) }),
  (71, { und := .flt .f64, size := 1, bytes := 8, zero := [.flt .f64 0], ty := (.flt .f64) }),
  (73, { und := .slice 193, size := 1, bytes := 24, zero := [.sl .nil], ty := (.slice tTurn) }),
  (75, { und := .struct [(0, 37), (3, 73)], size := 4, bytes := 40, zero := [.flt .f32 0, .flt .f32 0, .flt .f32 0, .sl .nil], ty := tPose }),
  (77, { und := .slice 160, size := 1, bytes := 24, zero := [.sl .nil], ty := (.slice tTurn) }),
  (81, { und := .struct [(0, 43), (3, 77)], size := 4, bytes := 40, zero := [.flt .f32 0, .flt .f32 0, .flt .f32 0, .sl .nil], ty := tPose }),
  (85, { und := .other, size := 1, bytes := 8, zero := [.undef], ty := .unit }),
  (98, { und := .slice 2, size := 1, bytes := 24, zero := [.sl .nil], ty := (.slice (.int .i64)) }),
  (105, { und := .other, size := 1, bytes := 8, zero := [.pnil], ty := .unit }),
  (107, { und := .other, size := 1, bytes := 8, zero := [.pnil], ty := .unit }),
  (115, { und := .other, size := 1, bytes := 8, zero := [.pnil], ty := .unit }),
  (117, { und := .other, size := 1, bytes := 8, zero := [.undef], ty := .unit }),
  (118, { und := .other, size := 1, bytes := 8, zero := [.undef], ty := .unit }),
  (129, { und := .struct [(0, 37), (3, 98), (4, 34)], size := 5, bytes := 64, zero := [.flt .f32 0, .flt .f32 0, .flt .f32 0, .sl .nil, .sl .nil], ty := tSkinPoint }),
  (131, { und := .other, size := 1, bytes := 8, zero := [.pnil], ty := .unit }),
  (135, { und := .struct [(0, 43), (3, 98), (4, 34)], size := 5, bytes := 64, zero := [.flt .f32 0, .flt .f32 0, .flt .f32 0, .sl .nil, .sl .nil], ty := tSkinPoint }),
  (142, { und := .other, size := 1, bytes := 8, zero := [.pnil], ty := .unit }),
  (147, { und := .other, size := 1, bytes := 8, zero := [.undef], ty := .unit }),
  (158, { und := .other, size := 1, bytes := 8, zero := [.undef], ty := .unit }),
  (160, { und := .struct [(0, 35), (1, 35), (2, 35), (3, 35)], size := 4, bytes := 16, zero := [.flt .f32 0, .flt .f32 0, .flt .f32 0, .flt .f32 0], ty := tTurn }),
  (174, { und := .other, size := 1, bytes := 8, zero := [.undef], ty := .unit }),
  (181, { und := .struct [(0, 2), (1, 43)], size := 4, bytes := 24, zero := [.int .i64 0, .flt .f32 0, .flt .f32 0, .flt .f32 0], ty := tRootKey }),
  (185, { und := .struct [(0, 2), (1, 37)], size := 4, bytes := 24, zero := [.int .i64 0, .flt .f32 0, .flt .f32 0, .flt .f32 0], ty := tRootKey }),
  (193, { und := .struct [(0, 35), (1, 35), (2, 35), (3, 35)], size := 4, bytes := 16, zero := [.flt .f32 0, .flt .f32 0, .flt .f32 0, .flt .f32 0], ty := tTurn }),
  (204, { und := .int .u32, size := 1, bytes := 4, zero := [.int .u32 0], ty := (.int .u32) }),
  (206, { und := .int .u64, size := 1, bytes := 8, zero := [.int .u64 0], ty := (.int .u64) })]
theorem tab_ok : TabOK Try.prog (lookT tab) := tabB_spec (by kernel_rfl)
theorem mixed : Try.prog.follows .mixedOrders = true := by kernel_rfl
def E_w_szTurnS : Tabs := (mkE tab [] [])
set_option maxRecDepth 4000 in
theorem ek_w_szTurnS : EnvOK Try.prog E_w_szTurnS := (mkE_ok tab_ok mixed AllF.nil AllX.nil)
theorem ev_w_szTurnS (a : (List dTurn)) (left : Int) : evalF E_w_szTurnS noL Try.f117 [.ro false (.slice tTurn), .ro false (.int .i64)] (.one false (.int .i64)) (a, left, ()) = g_w_szTurnS a left := by kernel_rfl
def m_w_szTurnS : FM := { ps := [.ro false (.slice tTurn), .ro false (.int .i64)], res := .one false (.int .i64), run := fun x => some (t_w_szTurnS x.1 x.2.1) }
set_option maxRecDepth 4000 in
theorem ok_w_szTurnS : FmOK Try.prog 117 m_w_szTurnS := @FmOK.made Try.prog E_w_szTurnS ek_w_szTurnS 117 Try.f117 noL m_w_szTurnS Try.func117 (by kernel_rfl) (Loops.none (by kernel_rfl)) fun ds out _ hr => by obtain ⟨a, left, ⟨⟩⟩ := ds; exact (ev_w_szTurnS a left).trans ((q_w_szTurnS a left).trans hr)

def E_w_szPose : Tabs := (mkE tab [(117, m_w_szTurnS)] [])
set_option maxRecDepth 4000 in
theorem ek_w_szPose : EnvOK Try.prog E_w_szPose := (mkE_ok tab_ok mixed (AllF.cons ok_w_szTurnS AllF.nil) AllX.nil)
theorem ev_w_szPose (a : dPose) (left : Int) : evalF E_w_szPose noL Try.f38 [.ro true tPose, .ro false (.int .i64)] (.one false (.int .i64)) (a, left, ()) = g_w_szPose a left := by kernel_rfl
def m_w_szPose : FM := { ps := [.ro true tPose, .ro false (.int .i64)], res := .one false (.int .i64), run := fun x => some (t_w_szPose x.1 x.2.1) }
set_option maxRecDepth 4000 in
theorem ok_w_szPose : FmOK Try.prog 38 m_w_szPose := @FmOK.made Try.prog E_w_szPose ek_w_szPose 38 Try.f38 noL m_w_szPose Try.func38 (by kernel_rfl) (Loops.none (by kernel_rfl)) fun ds out _ hr => by obtain ⟨a, left, ⟨⟩⟩ := ds; exact (ev_w_szPose a left).trans ((q_w_szPose a left).trans hr)

def E_w_szPoseS : Tabs := (mkE tab [(38, m_w_szPose)] [])
set_option maxRecDepth 4000 in
theorem ek_w_szPoseS : EnvOK Try.prog E_w_szPoseS := (mkE_ok tab_ok mixed (AllF.cons ok_w_szPose AllF.nil) AllX.nil)
def lm_L_w_szPoseS_1 : LM := { mat := [], head := { slots := [(0, .dat false (.slice tPose)), (1, .dat false (.int .i64)), (4, .dat false (.int .i64)), (5, .dat false (.int .i64))], blks := [] }, out := { slots := [(1, .dat false (.int .i64)), (4, .dat false (.int .i64))], blks := [] }, ex := 0, rets := true, run := iter L_w_szPoseS_1 fuel }
def ll_w_szPoseS : List (Nat × LP) := [(5, .lm lm_L_w_szPoseS_1)]
theorem rd_L_w_szPoseS_1 (rec' : ((List dPose) × Int × Int × Int × Unit) × (Unit) → Option (Bool × ((Int × Int × Unit) × (Unit)))) (a : (List dPose)) (left : Int) (t4 : Int) (i : Int) : round E_w_szPoseS (lookL ll_w_szPoseS) lm_L_w_szPoseS_1 27 (loopAt Try.f64 0) rec' ((a, left, t4, i, ()), (())) = L_w_szPoseS_1 rec' ((a, left, t4, i, ()), (())) := by kernel_rfl
theorem lo_w_szPoseS : Loops E_w_szPoseS (lookL ll_w_szPoseS) Try.f64 := Loops.list (by kernel_rfl) (by kernel_rfl) ⟨LoopOK.iter (step := L_w_szPoseS_1) (N := fun _ => fuel) (fun rec' x => by obtain ⟨⟨a, left, t4, i, ⟨⟩⟩, ⟨⟨⟩⟩⟩ := x; exact rd_L_w_szPoseS_1 rec' a left t4 i) fun _ => rfl, trivial⟩
theorem ev_w_szPoseS (a : (List dPose)) (left : Int) : evalF E_w_szPoseS (lookL ll_w_szPoseS) Try.f64 [.ro false (.slice tPose), .ro false (.int .i64)] (.one false (.int .i64)) (a, left, ()) = g_w_szPoseS a left := by kernel_rfl
def m_w_szPoseS : FM := { ps := [.ro false (.slice tPose), .ro false (.int .i64)], res := .one false (.int .i64), run := fun x => g_w_szPoseS x.1 x.2.1 }
set_option maxRecDepth 4000 in
theorem ok_w_szPoseS : FmOK Try.prog 64 m_w_szPoseS := @FmOK.made Try.prog E_w_szPoseS ek_w_szPoseS 64 Try.f64 (lookL ll_w_szPoseS) m_w_szPoseS Try.func64 (by kernel_rfl) lo_w_szPoseS fun ds out _ hr => by obtain ⟨a, left, ⟨⟩⟩ := ds; exact (ev_w_szPoseS a left).trans hr

def E_w_szRecording : Tabs := (mkE tab [(64, m_w_szPoseS)] [])
set_option maxRecDepth 4000 in
theorem ek_w_szRecording : EnvOK Try.prog E_w_szRecording := (mkE_ok tab_ok mixed (AllF.cons ok_w_szPoseS AllF.nil) AllX.nil)
theorem ev_w_szRecording (a : dRec) (left : Int) : evalF E_w_szRecording noL Try.f13 [.ro true tRec, .ro false (.int .i64)] (.one false (.int .i64)) (a, left, ()) = g_w_szRecording a left := by kernel_rfl
def m_w_szRecording : FM := { ps := [.ro true tRec, .ro false (.int .i64)], res := .one false (.int .i64), run := fun x => g_w_szRecording x.1 x.2.1 }
set_option maxRecDepth 4000 in
theorem ok_w_szRecording : FmOK Try.prog 13 m_w_szRecording := @FmOK.made Try.prog E_w_szRecording ek_w_szRecording 13 Try.f13 noL m_w_szRecording Try.func13 (by kernel_rfl) (Loops.none (by kernel_rfl)) fun ds out _ hr => by obtain ⟨a, left, ⟨⟩⟩ := ds; exact (ev_w_szRecording a left).trans hr

def E_w_toVector : Tabs := (mkE tab [] [])
set_option maxRecDepth 4000 in
theorem ek_w_toVector : EnvOK Try.prog E_w_toVector := (mkE_ok tab_ok mixed AllF.nil AllX.nil)
theorem ev_w_toVector (a : dVec) : evalF E_w_toVector noL Try.f81 [.ro true tVec] (.one true tVec) (a, ()) = g_w_toVector a := by kernel_rfl
def m_w_toVector : FM := { ps := [.ro true tVec], res := .one true tVec, run := fun x => some (t_w_toVector x.1) }
set_option maxRecDepth 4000 in
theorem ok_w_toVector : FmOK Try.prog 81 m_w_toVector := @FmOK.made Try.prog E_w_toVector ek_w_toVector 81 Try.f81 noL m_w_toVector Try.func81 (by kernel_rfl) (Loops.none (by kernel_rfl)) fun ds out _ hr => by obtain ⟨a, ⟨⟩⟩ := ds; exact (ev_w_toVector a).trans ((q_w_toVector a).trans hr)

def E_w_toTurn : Tabs := (mkE tab [] [])
set_option maxRecDepth 4000 in
theorem ek_w_toTurn : EnvOK Try.prog E_w_toTurn := (mkE_ok tab_ok mixed AllF.nil AllX.nil)
theorem ev_w_toTurn (a : dTurn) : evalF E_w_toTurn noL Try.f166 [.ro true tTurn] (.one true tTurn) (a, ()) = g_w_toTurn a := by kernel_rfl
def m_w_toTurn : FM := { ps := [.ro true tTurn], res := .one true tTurn, run := fun x => some (t_w_toTurn x.1) }
set_option maxRecDepth 4000 in
theorem ok_w_toTurn : FmOK Try.prog 166 m_w_toTurn := @FmOK.made Try.prog E_w_toTurn ek_w_toTurn 166 Try.f166 noL m_w_toTurn Try.func166 (by kernel_rfl) (Loops.none (by kernel_rfl)) fun ds out _ hr => by obtain ⟨a, ⟨⟩⟩ := ds; exact (ev_w_toTurn a).trans ((q_w_toTurn a).trans hr)

def E_w_toTurnS : Tabs := (mkE tab [(166, m_w_toTurn)] [])
set_option maxRecDepth 4000 in
theorem ek_w_toTurnS : EnvOK Try.prog E_w_toTurnS := (mkE_ok tab_ok mixed (AllF.cons ok_w_toTurn AllF.nil) AllX.nil)
def lm_L_w_toTurnS_1 : LM := { mat := [], head := { slots := [(0, .dat false (.slice tTurn)), (3, .cst (.sl (.row 0))), (4, .dat false (.int .i64))], blks := [.row false tTurn] }, out := { slots := [(3, .cst (.sl (.row 0)))], blks := [.row false tTurn] }, ex := 0, rets := false, run := iter L_w_toTurnS_1 fuel }
def ll_w_toTurnS : List (Nat × LP) := [(3, .lm lm_L_w_toTurnS_1)]
theorem rd_L_w_toTurnS_1 (rec' : ((List dTurn) × Int × Unit) × ((List dTurn) × Unit) → Option ((Unit) × ((List dTurn) × Unit))) (a : (List dTurn)) (i : Int) (r0 : (List dTurn)) : round E_w_toTurnS (lookL ll_w_toTurnS) lm_L_w_toTurnS_1 23 (loopAt Try.f120 0) rec' ((a, i, ()), (r0, ())) = L_w_toTurnS_1 rec' ((a, i, ()), (r0, ())) := by kernel_rfl
theorem lo_w_toTurnS : Loops E_w_toTurnS (lookL ll_w_toTurnS) Try.f120 := Loops.list (by kernel_rfl) (by kernel_rfl) ⟨LoopOK.iter (step := L_w_toTurnS_1) (N := fun _ => fuel) (fun rec' x => by obtain ⟨⟨a, i, ⟨⟩⟩, ⟨r0, ⟨⟩⟩⟩ := x; exact rd_L_w_toTurnS_1 rec' a i r0) fun _ => rfl, trivial⟩
theorem ev_w_toTurnS (a : (List dTurn)) : evalF E_w_toTurnS (lookL ll_w_toTurnS) Try.f120 [.ro false (.slice tTurn)] (.one false (.slice tTurn)) (a, ()) = g_w_toTurnS a := by kernel_rfl
def m_w_toTurnS : FM := { ps := [.ro false (.slice tTurn)], res := .one false (.slice tTurn), run := fun x => g_w_toTurnS x.1 }
set_option maxRecDepth 4000 in
theorem ok_w_toTurnS : FmOK Try.prog 120 m_w_toTurnS := @FmOK.made Try.prog E_w_toTurnS ek_w_toTurnS 120 Try.f120 (lookL ll_w_toTurnS) m_w_toTurnS Try.func120 (by kernel_rfl) lo_w_toTurnS fun ds out _ hr => by obtain ⟨a, ⟨⟩⟩ := ds; exact (ev_w_toTurnS a).trans hr

def E_w_toPose : Tabs := (mkE tab [(81, m_w_toVector), (120, m_w_toTurnS)] [])
set_option maxRecDepth 4000 in
theorem ek_w_toPose : EnvOK Try.prog E_w_toPose := (mkE_ok tab_ok mixed (AllF.cons ok_w_toVector (AllF.cons ok_w_toTurnS AllF.nil)) AllX.nil)
theorem ev_w_toPose (a : dPose) : evalF E_w_toPose noL Try.f40 [.ro true tPose] (.one true tPose) (a, ()) = g_w_toPose a := by kernel_rfl
def m_w_toPose : FM := { ps := [.ro true tPose], res := .one true tPose, run := fun x => g_w_toPose x.1 }
set_option maxRecDepth 4000 in
theorem ok_w_toPose : FmOK Try.prog 40 m_w_toPose := @FmOK.made Try.prog E_w_toPose ek_w_toPose 40 Try.f40 noL m_w_toPose Try.func40 (by kernel_rfl) (Loops.none (by kernel_rfl)) fun ds out _ hr => by obtain ⟨a, ⟨⟩⟩ := ds; exact (ev_w_toPose a).trans hr

def E_w_toPoseS : Tabs := (mkE tab [(40, m_w_toPose)] [])
set_option maxRecDepth 4000 in
theorem ek_w_toPoseS : EnvOK Try.prog E_w_toPoseS := (mkE_ok tab_ok mixed (AllF.cons ok_w_toPose AllF.nil) AllX.nil)
def lm_L_w_toPoseS_1 : LM := { mat := [], head := { slots := [(0, .dat false (.slice tPose)), (3, .cst (.sl (.row 0))), (4, .dat false (.int .i64))], blks := [.row false tPose] }, out := { slots := [(3, .cst (.sl (.row 0)))], blks := [.row false tPose] }, ex := 0, rets := false, run := iter L_w_toPoseS_1 fuel }
def ll_w_toPoseS : List (Nat × LP) := [(3, .lm lm_L_w_toPoseS_1)]
theorem rd_L_w_toPoseS_1 (rec' : ((List dPose) × Int × Unit) × ((List dPose) × Unit) → Option ((Unit) × ((List dPose) × Unit))) (a : (List dPose)) (i : Int) (r0 : (List dPose)) : round E_w_toPoseS (lookL ll_w_toPoseS) lm_L_w_toPoseS_1 23 (loopAt Try.f67 0) rec' ((a, i, ()), (r0, ())) = L_w_toPoseS_1 rec' ((a, i, ()), (r0, ())) := by kernel_rfl
theorem lo_w_toPoseS : Loops E_w_toPoseS (lookL ll_w_toPoseS) Try.f67 := Loops.list (by kernel_rfl) (by kernel_rfl) ⟨LoopOK.iter (step := L_w_toPoseS_1) (N := fun _ => fuel) (fun rec' x => by obtain ⟨⟨a, i, ⟨⟩⟩, ⟨r0, ⟨⟩⟩⟩ := x; exact rd_L_w_toPoseS_1 rec' a i r0) fun _ => rfl, trivial⟩
theorem ev_w_toPoseS (a : (List dPose)) : evalF E_w_toPoseS (lookL ll_w_toPoseS) Try.f67 [.ro false (.slice tPose)] (.one false (.slice tPose)) (a, ()) = g_w_toPoseS a := by kernel_rfl
def m_w_toPoseS : FM := { ps := [.ro false (.slice tPose)], res := .one false (.slice tPose), run := fun x => g_w_toPoseS x.1 }
set_option maxRecDepth 4000 in
theorem ok_w_toPoseS : FmOK Try.prog 67 m_w_toPoseS := @FmOK.made Try.prog E_w_toPoseS ek_w_toPoseS 67 Try.f67 (lookL ll_w_toPoseS) m_w_toPoseS Try.func67 (by kernel_rfl) lo_w_toPoseS fun ds out _ hr => by obtain ⟨a, ⟨⟩⟩ := ds; exact (ev_w_toPoseS a).trans hr

def E_w_toRecording : Tabs := (mkE tab [(67, m_w_toPoseS)] [])
set_option maxRecDepth 4000 in
theorem ek_w_toRecording : EnvOK Try.prog E_w_toRecording := (mkE_ok tab_ok mixed (AllF.cons ok_w_toPoseS AllF.nil) AllX.nil)
theorem ev_w_toRecording (a : dRec) : evalF E_w_toRecording noL Try.f15 [.ro true tRec] (.one true tRec) (a, ()) = g_w_toRecording a := by kernel_rfl
def m_w_toRecording : FM := { ps := [.ro true tRec], res := .one true tRec, run := fun x => g_w_toRecording x.1 }
set_option maxRecDepth 4000 in
theorem ok_w_toRecording : FmOK Try.prog 15 m_w_toRecording := @FmOK.made Try.prog E_w_toRecording ek_w_toRecording 15 Try.f15 noL m_w_toRecording Try.func15 (by kernel_rfl) (Loops.none (by kernel_rfl)) fun ds out _ hr => by obtain ⟨a, ⟨⟩⟩ := ds; exact (ev_w_toRecording a).trans hr

def E_s_l00In : Tabs := (mkE tab [] [])
set_option maxRecDepth 4000 in
theorem ek_s_l00In : EnvOK Try.prog E_s_l00In := (mkE_ok tab_ok mixed AllF.nil AllX.nil)
theorem ev_s_l00In (n : Int) (low : Int) (high : Int) : evalF E_s_l00In noL Try.f151 [.ro false (.int .i64), .ro false (.int .i64), .ro false (.int .i64)] (.one false .bool) (n, low, high, ()) = g_s_l00In n low high := by kernel_rfl
def m_s_l00In : FM := { ps := [.ro false (.int .i64), .ro false (.int .i64), .ro false (.int .i64)], res := .one false .bool, run := fun x => some (t_s_l00In x.1 x.2.1 x.2.2.1) }
set_option maxRecDepth 4000 in
theorem ok_s_l00In : FmOK Try.prog 151 m_s_l00In := @FmOK.made Try.prog E_s_l00In ek_s_l00In 151 Try.f151 noL m_s_l00In Try.func151 (by kernel_rfl) (Loops.none (by kernel_rfl)) fun ds out _ hr => by obtain ⟨n, low, high, ⟨⟩⟩ := ds; exact (ev_s_l00In n low high).trans ((q_s_l00In n low high).trans hr)

def E_s_l06Count : Tabs := (mkE tab [(151, m_s_l00In)] [])
set_option maxRecDepth 4000 in
theorem ek_s_l06Count : EnvOK Try.prog E_s_l06Count := (mkE_ok tab_ok mixed (AllF.cons ok_s_l00In AllF.nil) AllX.nil)
theorem ev_s_l06Count (count : Int) : evalF E_s_l06Count noL Try.f143 [.ro false (.int .i64)] (.one false .bool) (count, ()) = g_s_l06Count count := by kernel_rfl
def m_s_l06Count : FM := { ps := [.ro false (.int .i64)], res := .one false .bool, run := fun x => some (t_s_l06Count x.1) }
set_option maxRecDepth 4000 in
theorem ok_s_l06Count : FmOK Try.prog 143 m_s_l06Count := @FmOK.made Try.prog E_s_l06Count ek_s_l06Count 143 Try.f143 noL m_s_l06Count Try.func143 (by kernel_rfl) (Loops.none (by kernel_rfl)) fun ds out _ hr => by obtain ⟨count, ⟨⟩⟩ := ds; exact (ev_s_l06Count count).trans ((q_s_l06Count count).trans hr)

def E_s_l10Is : Tabs := (mkE tab [(143, m_s_l06Count)] [])
set_option maxRecDepth 4000 in
theorem ek_s_l10Is : EnvOK Try.prog E_s_l10Is := (mkE_ok tab_ok mixed (AllF.cons ok_s_l06Count AllF.nil) AllX.nil)
def lm_L_s_l10Is_1 : LM := { mat := [], head := { slots := [(0, .dat false (.ref tRec)), (2, .dat false .bool), (3, .dat false (.int .i64))], blks := [] }, out := { slots := [(2, .dat false .bool)], blks := [] }, ex := 0, rets := true, run := iter L_s_l10Is_1 fuel }
def ll_s_l10Is : List (Nat × LP) := [(4, .lm lm_L_s_l10Is_1)]
theorem rd_L_s_l10Is_1 (rec' : (dRec × Bool × Int × Unit) × (Unit) → Option (Bool × ((Bool × Unit) × (Unit)))) (r : dRec) (t2 : Bool) (i : Int) : round E_s_l10Is (lookL ll_s_l10Is) lm_L_s_l10Is_1 41 (loopAt Try.f65 0) rec' ((r, t2, i, ()), (())) = L_s_l10Is_1 rec' ((r, t2, i, ()), (())) := by kernel_rfl
theorem lo_s_l10Is : Loops E_s_l10Is (lookL ll_s_l10Is) Try.f65 := Loops.list (by kernel_rfl) (by kernel_rfl) ⟨LoopOK.iter (step := L_s_l10Is_1) (N := fun _ => fuel) (fun rec' x => by obtain ⟨⟨r, t2, i, ⟨⟩⟩, ⟨⟨⟩⟩⟩ := x; exact rd_L_s_l10Is_1 rec' r t2 i) fun _ => rfl, trivial⟩
theorem ev_s_l10Is (r : dRec) : evalF E_s_l10Is (lookL ll_s_l10Is) Try.f65 [.rptr tRec] (.one false .bool) (r, ()) = g_s_l10Is r := by kernel_rfl
def m_s_l10Is : FM := { ps := [.rptr tRec], res := .one false .bool, run := fun x => g_s_l10Is x.1 }
set_option maxRecDepth 4000 in
theorem ok_s_l10Is : FmOK Try.prog 65 m_s_l10Is := @FmOK.made Try.prog E_s_l10Is ek_s_l10Is 65 Try.f65 (lookL ll_s_l10Is) m_s_l10Is Try.func65 (by kernel_rfl) lo_s_l10Is fun ds out _ hr => by obtain ⟨r, ⟨⟩⟩ := ds; exact (ev_s_l10Is r).trans hr

set_option maxRecDepth 4000 in
theorem ok_float32bits : FmOK Try.prog 186 m_float32bits := FmOK.bits (e := Extern.MathFloatBits.float32bits) Try.func186 (by kernel_rfl) rfl (by kernel_rfl) (by kernel_rfl) (fun _ _ => rfl) (by decide) (by decide)

def E_s_l01Bits : Tabs := (mkE tab [(186, m_float32bits)] [])
set_option maxRecDepth 4000 in
theorem ek_s_l01Bits : EnvOK Try.prog E_s_l01Bits := (mkE_ok tab_ok mixed (AllF.cons ok_float32bits AllF.nil) AllX.nil)
theorem ev_s_l01Bits (xx : Nat) : evalF E_s_l01Bits noL Try.f152 [.ro false (.flt .f32)] (.one false (.int .i64)) (xx, ()) = g_s_l01Bits xx := by kernel_rfl
def m_s_l01Bits : FM := { ps := [.ro false (.flt .f32)], res := .one false (.int .i64), run := fun x => g_s_l01Bits x.1 }
set_option maxRecDepth 4000 in
theorem ok_s_l01Bits : FmOK Try.prog 152 m_s_l01Bits := @FmOK.made Try.prog E_s_l01Bits ek_s_l01Bits 152 Try.f152 noL m_s_l01Bits Try.func152 (by kernel_rfl) (Loops.none (by kernel_rfl)) fun ds out _ hr => by obtain ⟨xx, ⟨⟩⟩ := ds; exact (ev_s_l01Bits xx).trans hr

def E_s_l01Same : Tabs := (mkE tab [(152, m_s_l01Bits)] [])
set_option maxRecDepth 4000 in
theorem ek_s_l01Same : EnvOK Try.prog E_s_l01Same := (mkE_ok tab_ok mixed (AllF.cons ok_s_l01Bits AllF.nil) AllX.nil)
theorem ev_s_l01Same (a : Nat) (b : Nat) : evalF E_s_l01Same noL Try.f78 [.ro false (.flt .f32), .ro false (.flt .f32)] (.one false .bool) (a, b, ()) = g_s_l01Same a b := by kernel_rfl
def m_s_l01Same : FM := { ps := [.ro false (.flt .f32), .ro false (.flt .f32)], res := .one false .bool, run := fun x => g_s_l01Same x.1 x.2.1 }
set_option maxRecDepth 4000 in
theorem ok_s_l01Same : FmOK Try.prog 78 m_s_l01Same := @FmOK.made Try.prog E_s_l01Same ek_s_l01Same 78 Try.f78 noL m_s_l01Same Try.func78 (by kernel_rfl) (Loops.none (by kernel_rfl)) fun ds out _ hr => by obtain ⟨a, b, ⟨⟩⟩ := ds; exact (ev_s_l01Same a b).trans hr

def E_s_l01VSame : Tabs := (mkE tab [(78, m_s_l01Same)] [])
set_option maxRecDepth 4000 in
theorem ek_s_l01VSame : EnvOK Try.prog E_s_l01VSame := (mkE_ok tab_ok mixed (AllF.cons ok_s_l01Same AllF.nil) AllX.nil)
theorem ev_s_l01VSame (a : dVec) (b : dVec) : evalF E_s_l01VSame noL Try.f77 [.ro true tVec, .ro true tVec] (.one false .bool) (a, b, ()) = g_s_l01VSame a b := by kernel_rfl
def m_s_l01VSame : FM := { ps := [.ro true tVec, .ro true tVec], res := .one false .bool, run := fun x => g_s_l01VSame x.1 x.2.1 }
set_option maxRecDepth 4000 in
theorem ok_s_l01VSame : FmOK Try.prog 77 m_s_l01VSame := @FmOK.made Try.prog E_s_l01VSame ek_s_l01VSame 77 Try.f77 noL m_s_l01VSame Try.func77 (by kernel_rfl) (Loops.none (by kernel_rfl)) fun ds out _ hr => by obtain ⟨a, b, ⟨⟩⟩ := ds; exact (ev_s_l01VSame a b).trans hr

def E_s_l02Same : Tabs := (mkE tab [(78, m_s_l01Same)] [])
set_option maxRecDepth 4000 in
theorem ek_s_l02Same : EnvOK Try.prog E_s_l02Same := (mkE_ok tab_ok mixed (AllF.cons ok_s_l01Same AllF.nil) AllX.nil)
theorem ev_s_l02Same (a : dTurn) (b : dTurn) : evalF E_s_l02Same noL Try.f144 [.ro true tTurn, .ro true tTurn] (.one false .bool) (a, b, ()) = g_s_l02Same a b := by kernel_rfl
def m_s_l02Same : FM := { ps := [.ro true tTurn, .ro true tTurn], res := .one false .bool, run := fun x => g_s_l02Same x.1 x.2.1 }
set_option maxRecDepth 4000 in
theorem ok_s_l02Same : FmOK Try.prog 144 m_s_l02Same := @FmOK.made Try.prog E_s_l02Same ek_s_l02Same 144 Try.f144 noL m_s_l02Same Try.func144 (by kernel_rfl) (Loops.none (by kernel_rfl)) fun ds out _ hr => by obtain ⟨a, b, ⟨⟩⟩ := ds; exact (ev_s_l02Same a b).trans hr

def E_s_l03Same : Tabs := (mkE tab [(77, m_s_l01VSame), (144, m_s_l02Same)] [])
set_option maxRecDepth 4000 in
theorem ek_s_l03Same : EnvOK Try.prog E_s_l03Same := (mkE_ok tab_ok mixed (AllF.cons ok_s_l01VSame (AllF.cons ok_s_l02Same AllF.nil)) AllX.nil)
def lm_L_s_l03Same_1 : LM := { mat := [], head := { slots := [(0, .dat false (.ref tPose)), (1, .dat false (.ref tPose)), (4, .dat false .bool), (33, .dat false (.int .i64)), (34, .dat false (.int .i64))], blks := [] }, out := { slots := [(4, .dat false .bool)], blks := [] }, ex := 0, rets := true, run := iter L_s_l03Same_1 fuel }
def ll_s_l03Same : List (Nat × LP) := [(4, .lm lm_L_s_l03Same_1)]
theorem rd_L_s_l03Same_1 (rec' : (dPose × dPose × Bool × Int × Int × Unit) × (Unit) → Option (Bool × ((Bool × Unit) × (Unit)))) (p : dPose) (q : dPose) (t4 : Bool) (t33 : Int) (t34 : Int) : round E_s_l03Same (lookL ll_s_l03Same) lm_L_s_l03Same_1 54 (loopAt Try.f66 0) rec' ((p, q, t4, t33, t34, ()), (())) = L_s_l03Same_1 rec' ((p, q, t4, t33, t34, ()), (())) := by kernel_rfl
theorem lo_s_l03Same : Loops E_s_l03Same (lookL ll_s_l03Same) Try.f66 := Loops.list (by kernel_rfl) (by kernel_rfl) ⟨LoopOK.iter (step := L_s_l03Same_1) (N := fun _ => fuel) (fun rec' x => by obtain ⟨⟨p, q, t4, t33, t34, ⟨⟩⟩, ⟨⟨⟩⟩⟩ := x; exact rd_L_s_l03Same_1 rec' p q t4 t33 t34) fun _ => rfl, trivial⟩
theorem ev_s_l03Same (p : dPose) (q : dPose) : evalF E_s_l03Same (lookL ll_s_l03Same) Try.f66 [.rptr tPose, .rptr tPose] (.one false .bool) (p, q, ()) = g_s_l03Same p q := by kernel_rfl
def m_s_l03Same : FM := { ps := [.rptr tPose, .rptr tPose], res := .one false .bool, run := fun x => g_s_l03Same x.1 x.2.1 }
set_option maxRecDepth 4000 in
theorem ok_s_l03Same : FmOK Try.prog 66 m_s_l03Same := @FmOK.made Try.prog E_s_l03Same ek_s_l03Same 66 Try.f66 (lookL ll_s_l03Same) m_s_l03Same Try.func66 (by kernel_rfl) lo_s_l03Same fun ds out _ hr => by obtain ⟨p, q, ⟨⟩⟩ := ds; exact (ev_s_l03Same p q).trans hr

def E_s_SameRecording : Tabs := (mkE tab [(65, m_s_l10Is), (66, m_s_l03Same)] [])
set_option maxRecDepth 4000 in
theorem ek_s_SameRecording : EnvOK Try.prog E_s_SameRecording := (mkE_ok tab_ok mixed (AllF.cons ok_s_l10Is (AllF.cons ok_s_l03Same AllF.nil)) AllX.nil)
def lm_L_s_SameRecording_1 : LM := { mat := [], head := { slots := [(2, .cst (.ptr (.box 0 0))), (3, .cst (.ptr (.box 1 0))), (4, .dat false .bool), (5, .dat false (.int .i64))], blks := [.box [.dat tRec], .box [.dat tRec]] }, out := { slots := [(4, .dat false .bool)], blks := [.dead, .dead] }, ex := 0, rets := true, run := iter L_s_SameRecording_1 fuel }
def ll_s_SameRecording : List (Nat × LP) := [(4, .lm lm_L_s_SameRecording_1)]
theorem rd_L_s_SameRecording_1 (rec' : (Bool × Int × Unit) × ((dRec × Unit) × (dRec × Unit) × Unit) → Option (Bool × ((Bool × Unit) × (Unit)))) (t4 : Bool) (i : Int) (b0 : dRec) (b1 : dRec) : round E_s_SameRecording (lookL ll_s_SameRecording) lm_L_s_SameRecording_1 45 (loopAt Try.f14 0) rec' ((t4, i, ()), ((b0, ()), (b1, ()), ())) = L_s_SameRecording_1 rec' ((t4, i, ()), ((b0, ()), (b1, ()), ())) := by kernel_rfl
theorem lo_s_SameRecording : Loops E_s_SameRecording (lookL ll_s_SameRecording) Try.f14 := Loops.list (by kernel_rfl) (by kernel_rfl) ⟨LoopOK.iter (step := L_s_SameRecording_1) (N := fun _ => fuel) (fun rec' x => by obtain ⟨⟨t4, i, ⟨⟩⟩, ⟨⟨b0, ⟨⟩⟩, ⟨b1, ⟨⟩⟩, ⟨⟩⟩⟩ := x; exact rd_L_s_SameRecording_1 rec' t4 i b0 b1) fun _ => rfl, trivial⟩
theorem ev_s_SameRecording (a : dRec) (b : dRec) : evalF E_s_SameRecording (lookL ll_s_SameRecording) Try.f14 [.ro true tRec, .ro true tRec] (.one false .bool) (a, b, ()) = g_s_SameRecording a b := by kernel_rfl
def m_s_SameRecording : FM := { ps := [.ro true tRec, .ro true tRec], res := .one false .bool, run := fun x => g_s_SameRecording x.1 x.2.1 }
set_option maxRecDepth 4000 in
theorem ok_s_SameRecording : FmOK Try.prog 14 m_s_SameRecording := @FmOK.made Try.prog E_s_SameRecording ek_s_SameRecording 14 Try.f14 (lookL ll_s_SameRecording) m_s_SameRecording Try.func14 (by kernel_rfl) lo_s_SameRecording fun ds out _ hr => by obtain ⟨a, b, ⟨⟩⟩ := ds; exact (ev_s_SameRecording a b).trans hr

def E_i_isCount : Tabs := (mkE tab [] [])
set_option maxRecDepth 4000 in
theorem ek_i_isCount : EnvOK Try.prog E_i_isCount := (mkE_ok tab_ok mixed AllF.nil AllX.nil)
theorem ev_i_isCount (count : Int) : evalF E_i_isCount noL Try.f145 [.ro false (.int .i64)] (.one false .bool) (count, ()) = g_i_isCount count := by kernel_rfl
def m_i_isCount : FM := { ps := [.ro false (.int .i64)], res := .one false .bool, run := fun x => some (t_i_isCount x.1) }
set_option maxRecDepth 4000 in
theorem ok_i_isCount : FmOK Try.prog 145 m_i_isCount := @FmOK.made Try.prog E_i_isCount ek_i_isCount 145 Try.f145 noL m_i_isCount Try.func145 (by kernel_rfl) (Loops.none (by kernel_rfl)) fun ds out _ hr => by obtain ⟨count, ⟨⟩⟩ := ds; exact (ev_i_isCount count).trans ((q_i_isCount count).trans hr)

def E_i_ValidRecording_1 : Tabs := (mkE tab [] [])
set_option maxRecDepth 4000 in
theorem ek_i_ValidRecording_1 : EnvOK Try.prog E_i_ValidRecording_1 := (mkE_ok tab_ok mixed AllF.nil AllX.nil)
theorem ev_i_ValidRecording_1 (p : dPose) (p1 : dRec) : evalF E_i_ValidRecording_1 noL Try.f147 [.ro true tPose, .rptr tRec] (.one false .bool) (p, p1, ()) = g_i_ValidRecording_1 p p1 := by kernel_rfl
def m_i_ValidRecording_1 : FM := { ps := [.ro true tPose, .rptr tRec], res := .one false .bool, run := fun x => some (t_i_ValidRecording_1 x.1 x.2.1) }
set_option maxRecDepth 4000 in
theorem ok_i_ValidRecording_1 : FmOK Try.prog 147 m_i_ValidRecording_1 := @FmOK.made Try.prog E_i_ValidRecording_1 ek_i_ValidRecording_1 147 Try.f147 noL m_i_ValidRecording_1 Try.func147 (by kernel_rfl) (Loops.none (by kernel_rfl)) fun ds out _ hr => by obtain ⟨p, p1, ⟨⟩⟩ := ds; exact (ev_i_ValidRecording_1 p p1).trans ((q_i_ValidRecording_1 p p1).trans hr)

def E_slices_IndexFunc_i_Pose_i_Pose : Tabs := (mkE tab [(147, m_i_ValidRecording_1)] [])
set_option maxRecDepth 4000 in
theorem ek_slices_IndexFunc_i_Pose_i_Pose : EnvOK Try.prog E_slices_IndexFunc_i_Pose_i_Pose := (mkE_ok tab_ok mixed (AllF.cons ok_i_ValidRecording_1 AllF.nil) AllX.nil)
def lm_L_slices_IndexFunc_i_Pose_i_Pose_1 : LM := { mat := [], head := { slots := [(0, .dat false (.slice tPose)), (1, .fnc 147 [tRec]), (4, .dat false (.int .i64)), (7, .dat false (.int .i64)), (8, .dat false (.int .i64))], blks := [] }, out := { slots := [(4, .dat false (.int .i64))], blks := [] }, ex := 0, rets := true, run := iter L_slices_IndexFunc_i_Pose_i_Pose_1 fuel }
def ll_slices_IndexFunc_i_Pose_i_Pose : List (Nat × LP) := [(2, .lm lm_L_slices_IndexFunc_i_Pose_i_Pose_1)]
theorem rd_L_slices_IndexFunc_i_Pose_i_Pose_1 (rec' : ((List dPose) × (dRec × Unit) × Int × Int × Int × Unit) × (Unit) → Option (Bool × ((Int × Unit) × (Unit)))) (s : (List dPose)) (f : (dRec × Unit)) (t4 : Int) (t7 : Int) (t8 : Int) : round E_slices_IndexFunc_i_Pose_i_Pose (lookL ll_slices_IndexFunc_i_Pose_i_Pose) lm_L_slices_IndexFunc_i_Pose_i_Pose_1 19 (loopAt Try.f185 0) rec' ((s, f, t4, t7, t8, ()), (())) = L_slices_IndexFunc_i_Pose_i_Pose_1 rec' ((s, f, t4, t7, t8, ()), (())) := by kernel_rfl
theorem lo_slices_IndexFunc_i_Pose_i_Pose : Loops E_slices_IndexFunc_i_Pose_i_Pose (lookL ll_slices_IndexFunc_i_Pose_i_Pose) Try.f185 := Loops.list (by kernel_rfl) (by kernel_rfl) ⟨LoopOK.iter (step := L_slices_IndexFunc_i_Pose_i_Pose_1) (N := fun _ => fuel) (fun rec' x => by obtain ⟨⟨s, f, t4, t7, t8, ⟨⟩⟩, ⟨⟨⟩⟩⟩ := x; exact rd_L_slices_IndexFunc_i_Pose_i_Pose_1 rec' s f t4 t7 t8) fun _ => rfl, trivial⟩
theorem ev_slices_IndexFunc_i_Pose_i_Pose (s : (List dPose)) (f : (dRec × Unit)) : evalF E_slices_IndexFunc_i_Pose_i_Pose (lookL ll_slices_IndexFunc_i_Pose_i_Pose) Try.f185 [.ro false (.slice tPose), .fnc 147 [tRec]] (.one false (.int .i64)) (s, f, ()) = g_slices_IndexFunc_i_Pose_i_Pose s f := by kernel_rfl
def m_slices_IndexFunc_i_Pose_i_Pose : FM := { ps := [.ro false (.slice tPose), .fnc 147 [tRec]], res := .one false (.int .i64), run := fun x => g_slices_IndexFunc_i_Pose_i_Pose x.1 x.2.1 }
set_option maxRecDepth 4000 in
theorem ok_slices_IndexFunc_i_Pose_i_Pose : FmOK Try.prog 185 m_slices_IndexFunc_i_Pose_i_Pose := @FmOK.made Try.prog E_slices_IndexFunc_i_Pose_i_Pose ek_slices_IndexFunc_i_Pose_i_Pose 185 Try.f185 (lookL ll_slices_IndexFunc_i_Pose_i_Pose) m_slices_IndexFunc_i_Pose_i_Pose Try.func185 (by kernel_rfl) lo_slices_IndexFunc_i_Pose_i_Pose fun ds out _ hr => by obtain ⟨s, f, ⟨⟩⟩ := ds; exact (ev_slices_IndexFunc_i_Pose_i_Pose s f).trans hr

def E_slices_ContainsFunc_i_Pose_i_Pose : Tabs := (mkE tab [(185, m_slices_IndexFunc_i_Pose_i_Pose)] [])
set_option maxRecDepth 4000 in
theorem ek_slices_ContainsFunc_i_Pose_i_Pose : EnvOK Try.prog E_slices_ContainsFunc_i_Pose_i_Pose := (mkE_ok tab_ok mixed (AllF.cons ok_slices_IndexFunc_i_Pose_i_Pose AllF.nil) AllX.nil)
theorem ev_slices_ContainsFunc_i_Pose_i_Pose (s : (List dPose)) (f : (dRec × Unit)) : evalF E_slices_ContainsFunc_i_Pose_i_Pose noL Try.f146 [.ro false (.slice tPose), .fnc 147 [tRec]] (.one false .bool) (s, f, ()) = g_slices_ContainsFunc_i_Pose_i_Pose s f := by kernel_rfl
def m_slices_ContainsFunc_i_Pose_i_Pose : FM := { ps := [.ro false (.slice tPose), .fnc 147 [tRec]], res := .one false .bool, run := fun x => g_slices_ContainsFunc_i_Pose_i_Pose x.1 x.2.1 }
set_option maxRecDepth 4000 in
theorem ok_slices_ContainsFunc_i_Pose_i_Pose : FmOK Try.prog 146 m_slices_ContainsFunc_i_Pose_i_Pose := @FmOK.made Try.prog E_slices_ContainsFunc_i_Pose_i_Pose ek_slices_ContainsFunc_i_Pose_i_Pose 146 Try.f146 noL m_slices_ContainsFunc_i_Pose_i_Pose Try.func146 (by kernel_rfl) (Loops.none (by kernel_rfl)) fun ds out _ hr => by obtain ⟨s, f, ⟨⟩⟩ := ds; exact (ev_slices_ContainsFunc_i_Pose_i_Pose s f).trans hr

def E_i_ValidRecording : Tabs := (mkE tab [(145, m_i_isCount), (146, m_slices_ContainsFunc_i_Pose_i_Pose)] [])
set_option maxRecDepth 4000 in
theorem ek_i_ValidRecording : EnvOK Try.prog E_i_ValidRecording := (mkE_ok tab_ok mixed (AllF.cons ok_i_isCount (AllF.cons ok_slices_ContainsFunc_i_Pose_i_Pose AllF.nil)) AllX.nil)
theorem ev_i_ValidRecording (r : dRec) : evalF E_i_ValidRecording noL Try.f68 [.ro true tRec] (.one false .bool) (r, ()) = g_i_ValidRecording r := by kernel_rfl
def m_i_ValidRecording : FM := { ps := [.ro true tRec], res := .one false .bool, run := fun x => g_i_ValidRecording x.1 }
set_option maxRecDepth 4000 in
theorem ok_i_ValidRecording : FmOK Try.prog 68 m_i_ValidRecording := @FmOK.made Try.prog E_i_ValidRecording ek_i_ValidRecording 68 Try.f68 noL m_i_ValidRecording Try.func68 (by kernel_rfl) (Loops.none (by kernel_rfl)) fun ds out _ hr => by obtain ⟨r, ⟨⟩⟩ := ds; exact (ev_i_ValidRecording r).trans hr

set_option maxRecDepth 4000 in
theorem ok_float64bits : FmOK Try.prog 187 m_float64bits := FmOK.bits (e := Extern.MathFloatBits.float64bits) Try.func187 (by kernel_rfl) rfl (by kernel_rfl) (by kernel_rfl) (fun _ _ => rfl) (by decide) (by decide)

def E_math_Signbit : Tabs := (mkE tab [(187, m_float64bits)] [])
set_option maxRecDepth 4000 in
theorem ek_math_Signbit : EnvOK Try.prog E_math_Signbit := (mkE_ok tab_ok mixed (AllF.cons ok_float64bits AllF.nil) AllX.nil)
theorem ev_math_Signbit (xx : Nat) : evalF E_math_Signbit noL Try.f154 [.ro false (.flt .f64)] (.one false .bool) (xx, ()) = g_math_Signbit xx := by kernel_rfl
def m_math_Signbit : FM := { ps := [.ro false (.flt .f64)], res := .one false .bool, run := fun x => g_math_Signbit x.1 }
set_option maxRecDepth 4000 in
theorem ok_math_Signbit : FmOK Try.prog 154 m_math_Signbit := @FmOK.made Try.prog E_math_Signbit ek_math_Signbit 154 Try.f154 noL m_math_Signbit Try.func154 (by kernel_rfl) (Loops.none (by kernel_rfl)) fun ds out _ hr => by obtain ⟨xx, ⟨⟩⟩ := ds; exact (ev_math_Signbit xx).trans hr

def E_i_SameNumber : Tabs := (mkE tab [(154, m_math_Signbit)] [])
set_option maxRecDepth 4000 in
theorem ek_i_SameNumber : EnvOK Try.prog E_i_SameNumber := (mkE_ok tab_ok mixed (AllF.cons ok_math_Signbit AllF.nil) AllX.nil)
theorem ev_i_SameNumber (a : Nat) (b : Nat) : evalF E_i_SameNumber noL Try.f87 [.ro false (.flt .f32), .ro false (.flt .f32)] (.one false .bool) (a, b, ()) = g_i_SameNumber a b := by kernel_rfl
def m_i_SameNumber : FM := { ps := [.ro false (.flt .f32), .ro false (.flt .f32)], res := .one false .bool, run := fun x => g_i_SameNumber x.1 x.2.1 }
set_option maxRecDepth 4000 in
theorem ok_i_SameNumber : FmOK Try.prog 87 m_i_SameNumber := @FmOK.made Try.prog E_i_SameNumber ek_i_SameNumber 87 Try.f87 noL m_i_SameNumber Try.func87 (by kernel_rfl) (Loops.none (by kernel_rfl)) fun ds out _ hr => by obtain ⟨a, b, ⟨⟩⟩ := ds; exact (ev_i_SameNumber a b).trans hr

def E_i_SameVector : Tabs := (mkE tab [(87, m_i_SameNumber)] [])
set_option maxRecDepth 4000 in
theorem ek_i_SameVector : EnvOK Try.prog E_i_SameVector := (mkE_ok tab_ok mixed (AllF.cons ok_i_SameNumber AllF.nil) AllX.nil)
theorem ev_i_SameVector (a : dVec) (b : dVec) : evalF E_i_SameVector noL Try.f84 [.ro true tVec, .ro true tVec] (.one false .bool) (a, b, ()) = g_i_SameVector a b := by kernel_rfl
def m_i_SameVector : FM := { ps := [.ro true tVec, .ro true tVec], res := .one false .bool, run := fun x => g_i_SameVector x.1 x.2.1 }
set_option maxRecDepth 4000 in
theorem ok_i_SameVector : FmOK Try.prog 84 m_i_SameVector := @FmOK.made Try.prog E_i_SameVector ek_i_SameVector 84 Try.f84 noL m_i_SameVector Try.func84 (by kernel_rfl) (Loops.none (by kernel_rfl)) fun ds out _ hr => by obtain ⟨a, b, ⟨⟩⟩ := ds; exact (ev_i_SameVector a b).trans hr

def E_i_SameTurn : Tabs := (mkE tab [(87, m_i_SameNumber)] [])
set_option maxRecDepth 4000 in
theorem ek_i_SameTurn : EnvOK Try.prog E_i_SameTurn := (mkE_ok tab_ok mixed (AllF.cons ok_i_SameNumber AllF.nil) AllX.nil)
theorem ev_i_SameTurn (a : dTurn) (b : dTurn) : evalF E_i_SameTurn noL Try.f149 [.ro true tTurn, .ro true tTurn] (.one false .bool) (a, b, ()) = g_i_SameTurn a b := by kernel_rfl
def m_i_SameTurn : FM := { ps := [.ro true tTurn, .ro true tTurn], res := .one false .bool, run := fun x => g_i_SameTurn x.1 x.2.1 }
set_option maxRecDepth 4000 in
theorem ok_i_SameTurn : FmOK Try.prog 149 m_i_SameTurn := @FmOK.made Try.prog E_i_SameTurn ek_i_SameTurn 149 Try.f149 noL m_i_SameTurn Try.func149 (by kernel_rfl) (Loops.none (by kernel_rfl)) fun ds out _ hr => by obtain ⟨a, b, ⟨⟩⟩ := ds; exact (ev_i_SameTurn a b).trans hr

def E_slices_EqualFunc_i_Turn_i_Turn_i_Turn_i_Turn : Tabs := (mkE tab [(149, m_i_SameTurn)] [])
set_option maxRecDepth 4000 in
theorem ek_slices_EqualFunc_i_Turn_i_Turn_i_Turn_i_Turn : EnvOK Try.prog E_slices_EqualFunc_i_Turn_i_Turn_i_Turn_i_Turn := (mkE_ok tab_ok mixed (AllF.cons ok_i_SameTurn AllF.nil) AllX.nil)
def lm_L_slices_EqualFunc_i_Turn_i_Turn_i_Turn_i_Turn_1 : LM := { mat := [], head := { slots := [(1, .dat false (.slice tTurn)), (2, .cst (.fn 149 [])), (6, .dat false .bool), (15, .dat false (.slice tTurn)), (16, .dat false (.int .i64)), (17, .dat false (.int .i64))], blks := [] }, out := { slots := [(6, .dat false .bool)], blks := [] }, ex := 0, rets := true, run := iter L_slices_EqualFunc_i_Turn_i_Turn_i_Turn_i_Turn_1 fuel }
def ll_slices_EqualFunc_i_Turn_i_Turn_i_Turn_i_Turn : List (Nat × LP) := [(4, .lm lm_L_slices_EqualFunc_i_Turn_i_Turn_i_Turn_i_Turn_1)]
theorem rd_L_slices_EqualFunc_i_Turn_i_Turn_i_Turn_i_Turn_1 (rec' : ((List dTurn) × Bool × (List dTurn) × Int × Int × Unit) × (Unit) → Option (Bool × ((Bool × Unit) × (Unit)))) (s2 : (List dTurn)) (t6 : Bool) (t15 : (List dTurn)) (t16 : Int) (t17 : Int) : round E_slices_EqualFunc_i_Turn_i_Turn_i_Turn_i_Turn (lookL ll_slices_EqualFunc_i_Turn_i_Turn_i_Turn_i_Turn) lm_L_slices_EqualFunc_i_Turn_i_Turn_i_Turn_i_Turn_1 32 (loopAt Try.f148 0) rec' ((s2, t6, t15, t16, t17, ()), (())) = L_slices_EqualFunc_i_Turn_i_Turn_i_Turn_i_Turn_1 rec' ((s2, t6, t15, t16, t17, ()), (())) := by kernel_rfl
theorem lo_slices_EqualFunc_i_Turn_i_Turn_i_Turn_i_Turn : Loops E_slices_EqualFunc_i_Turn_i_Turn_i_Turn_i_Turn (lookL ll_slices_EqualFunc_i_Turn_i_Turn_i_Turn_i_Turn) Try.f148 := Loops.list (by kernel_rfl) (by kernel_rfl) ⟨LoopOK.iter (step := L_slices_EqualFunc_i_Turn_i_Turn_i_Turn_i_Turn_1) (N := fun _ => fuel) (fun rec' x => by obtain ⟨⟨s2, t6, t15, t16, t17, ⟨⟩⟩, ⟨⟨⟩⟩⟩ := x; exact rd_L_slices_EqualFunc_i_Turn_i_Turn_i_Turn_i_Turn_1 rec' s2 t6 t15 t16 t17) fun _ => rfl, trivial⟩
theorem ev_slices_EqualFunc_i_Turn_i_Turn_i_Turn_i_Turn (s1 : (List dTurn)) (s2 : (List dTurn)) (eq : Unit) : evalF E_slices_EqualFunc_i_Turn_i_Turn_i_Turn_i_Turn (lookL ll_slices_EqualFunc_i_Turn_i_Turn_i_Turn_i_Turn) Try.f148 [.ro false (.slice tTurn), .ro false (.slice tTurn), .fnc 149 []] (.one false .bool) (s1, s2, eq, ()) = g_slices_EqualFunc_i_Turn_i_Turn_i_Turn_i_Turn s1 s2 eq := by kernel_rfl
def m_slices_EqualFunc_i_Turn_i_Turn_i_Turn_i_Turn : FM := { ps := [.ro false (.slice tTurn), .ro false (.slice tTurn), .fnc 149 []], res := .one false .bool, run := fun x => g_slices_EqualFunc_i_Turn_i_Turn_i_Turn_i_Turn x.1 x.2.1 x.2.2.1 }
set_option maxRecDepth 4000 in
theorem ok_slices_EqualFunc_i_Turn_i_Turn_i_Turn_i_Turn : FmOK Try.prog 148 m_slices_EqualFunc_i_Turn_i_Turn_i_Turn_i_Turn := @FmOK.made Try.prog E_slices_EqualFunc_i_Turn_i_Turn_i_Turn_i_Turn ek_slices_EqualFunc_i_Turn_i_Turn_i_Turn_i_Turn 148 Try.f148 (lookL ll_slices_EqualFunc_i_Turn_i_Turn_i_Turn_i_Turn) m_slices_EqualFunc_i_Turn_i_Turn_i_Turn_i_Turn Try.func148 (by kernel_rfl) lo_slices_EqualFunc_i_Turn_i_Turn_i_Turn_i_Turn fun ds out _ hr => by obtain ⟨s1, s2, eq, ⟨⟩⟩ := ds; exact (ev_slices_EqualFunc_i_Turn_i_Turn_i_Turn_i_Turn s1 s2 eq).trans hr

def E_i_SamePose : Tabs := (mkE tab [(84, m_i_SameVector), (148, m_slices_EqualFunc_i_Turn_i_Turn_i_Turn_i_Turn)] [])
set_option maxRecDepth 4000 in
theorem ek_i_SamePose : EnvOK Try.prog E_i_SamePose := (mkE_ok tab_ok mixed (AllF.cons ok_i_SameVector (AllF.cons ok_slices_EqualFunc_i_Turn_i_Turn_i_Turn_i_Turn AllF.nil)) AllX.nil)
theorem ev_i_SamePose (p : dPose) (q : dPose) : evalF E_i_SamePose noL Try.f70 [.ro true tPose, .ro true tPose] (.one false .bool) (p, q, ()) = g_i_SamePose p q := by kernel_rfl
def m_i_SamePose : FM := { ps := [.ro true tPose, .ro true tPose], res := .one false .bool, run := fun x => g_i_SamePose x.1 x.2.1 }
set_option maxRecDepth 4000 in
theorem ok_i_SamePose : FmOK Try.prog 70 m_i_SamePose := @FmOK.made Try.prog E_i_SamePose ek_i_SamePose 70 Try.f70 noL m_i_SamePose Try.func70 (by kernel_rfl) (Loops.none (by kernel_rfl)) fun ds out _ hr => by obtain ⟨p, q, ⟨⟩⟩ := ds; exact (ev_i_SamePose p q).trans hr

def E_slices_EqualFunc_i_Pose_i_Pose_i_Pose_i_Pose : Tabs := (mkE tab [(70, m_i_SamePose)] [])
set_option maxRecDepth 4000 in
theorem ek_slices_EqualFunc_i_Pose_i_Pose_i_Pose_i_Pose : EnvOK Try.prog E_slices_EqualFunc_i_Pose_i_Pose_i_Pose_i_Pose := (mkE_ok tab_ok mixed (AllF.cons ok_i_SamePose AllF.nil) AllX.nil)
def lm_L_slices_EqualFunc_i_Pose_i_Pose_i_Pose_i_Pose_1 : LM := { mat := [], head := { slots := [(1, .dat false (.slice tPose)), (2, .cst (.fn 70 [])), (6, .dat false .bool), (15, .dat false (.slice tPose)), (16, .dat false (.int .i64)), (17, .dat false (.int .i64))], blks := [] }, out := { slots := [(6, .dat false .bool)], blks := [] }, ex := 0, rets := true, run := iter L_slices_EqualFunc_i_Pose_i_Pose_i_Pose_i_Pose_1 fuel }
def ll_slices_EqualFunc_i_Pose_i_Pose_i_Pose_i_Pose : List (Nat × LP) := [(4, .lm lm_L_slices_EqualFunc_i_Pose_i_Pose_i_Pose_i_Pose_1)]
theorem rd_L_slices_EqualFunc_i_Pose_i_Pose_i_Pose_i_Pose_1 (rec' : ((List dPose) × Bool × (List dPose) × Int × Int × Unit) × (Unit) → Option (Bool × ((Bool × Unit) × (Unit)))) (s2 : (List dPose)) (t6 : Bool) (t15 : (List dPose)) (t16 : Int) (t17 : Int) : round E_slices_EqualFunc_i_Pose_i_Pose_i_Pose_i_Pose (lookL ll_slices_EqualFunc_i_Pose_i_Pose_i_Pose_i_Pose) lm_L_slices_EqualFunc_i_Pose_i_Pose_i_Pose_i_Pose_1 32 (loopAt Try.f69 0) rec' ((s2, t6, t15, t16, t17, ()), (())) = L_slices_EqualFunc_i_Pose_i_Pose_i_Pose_i_Pose_1 rec' ((s2, t6, t15, t16, t17, ()), (())) := by kernel_rfl
theorem lo_slices_EqualFunc_i_Pose_i_Pose_i_Pose_i_Pose : Loops E_slices_EqualFunc_i_Pose_i_Pose_i_Pose_i_Pose (lookL ll_slices_EqualFunc_i_Pose_i_Pose_i_Pose_i_Pose) Try.f69 := Loops.list (by kernel_rfl) (by kernel_rfl) ⟨LoopOK.iter (step := L_slices_EqualFunc_i_Pose_i_Pose_i_Pose_i_Pose_1) (N := fun _ => fuel) (fun rec' x => by obtain ⟨⟨s2, t6, t15, t16, t17, ⟨⟩⟩, ⟨⟨⟩⟩⟩ := x; exact rd_L_slices_EqualFunc_i_Pose_i_Pose_i_Pose_i_Pose_1 rec' s2 t6 t15 t16 t17) fun _ => rfl, trivial⟩
theorem ev_slices_EqualFunc_i_Pose_i_Pose_i_Pose_i_Pose (s1 : (List dPose)) (s2 : (List dPose)) (eq : Unit) : evalF E_slices_EqualFunc_i_Pose_i_Pose_i_Pose_i_Pose (lookL ll_slices_EqualFunc_i_Pose_i_Pose_i_Pose_i_Pose) Try.f69 [.ro false (.slice tPose), .ro false (.slice tPose), .fnc 70 []] (.one false .bool) (s1, s2, eq, ()) = g_slices_EqualFunc_i_Pose_i_Pose_i_Pose_i_Pose s1 s2 eq := by kernel_rfl
def m_slices_EqualFunc_i_Pose_i_Pose_i_Pose_i_Pose : FM := { ps := [.ro false (.slice tPose), .ro false (.slice tPose), .fnc 70 []], res := .one false .bool, run := fun x => g_slices_EqualFunc_i_Pose_i_Pose_i_Pose_i_Pose x.1 x.2.1 x.2.2.1 }
set_option maxRecDepth 4000 in
theorem ok_slices_EqualFunc_i_Pose_i_Pose_i_Pose_i_Pose : FmOK Try.prog 69 m_slices_EqualFunc_i_Pose_i_Pose_i_Pose_i_Pose := @FmOK.made Try.prog E_slices_EqualFunc_i_Pose_i_Pose_i_Pose_i_Pose ek_slices_EqualFunc_i_Pose_i_Pose_i_Pose_i_Pose 69 Try.f69 (lookL ll_slices_EqualFunc_i_Pose_i_Pose_i_Pose_i_Pose) m_slices_EqualFunc_i_Pose_i_Pose_i_Pose_i_Pose Try.func69 (by kernel_rfl) lo_slices_EqualFunc_i_Pose_i_Pose_i_Pose_i_Pose fun ds out _ hr => by obtain ⟨s1, s2, eq, ⟨⟩⟩ := ds; exact (ev_slices_EqualFunc_i_Pose_i_Pose_i_Pose_i_Pose s1 s2 eq).trans hr

def E_i_SameRecording : Tabs := (mkE tab [(68, m_i_ValidRecording), (69, m_slices_EqualFunc_i_Pose_i_Pose_i_Pose_i_Pose)] [])
set_option maxRecDepth 4000 in
theorem ek_i_SameRecording : EnvOK Try.prog E_i_SameRecording := (mkE_ok tab_ok mixed (AllF.cons ok_i_ValidRecording (AllF.cons ok_slices_EqualFunc_i_Pose_i_Pose_i_Pose_i_Pose AllF.nil)) AllX.nil)
theorem ev_i_SameRecording (a : dRec) (b : dRec) : evalF E_i_SameRecording noL Try.f16 [.ro true tRec, .ro true tRec] (.one false .bool) (a, b, ()) = g_i_SameRecording a b := by kernel_rfl
def m_i_SameRecording : FM := { ps := [.ro true tRec, .ro true tRec], res := .one false .bool, run := fun x => g_i_SameRecording x.1 x.2.1 }
set_option maxRecDepth 4000 in
theorem ok_i_SameRecording : FmOK Try.prog 16 m_i_SameRecording := @FmOK.made Try.prog E_i_SameRecording ek_i_SameRecording 16 Try.f16 noL m_i_SameRecording Try.func16 (by kernel_rfl) (Loops.none (by kernel_rfl)) fun ds out _ hr => by obtain ⟨a, b, ⟨⟩⟩ := ds; exact (ev_i_SameRecording a b).trans hr

def E_w_sameFloat : Tabs := (mkE tab [] [])
set_option maxRecDepth 4000 in
theorem ek_w_sameFloat : EnvOK Try.prog E_w_sameFloat := (mkE_ok tab_ok mixed AllF.nil AllX.nil)
theorem ev_w_sameFloat (a : Nat) (b : Nat) : evalF E_w_sameFloat noL Try.f37 [.ro false (.flt .f64), .ro false (.flt .f64)] (.one false .bool) (a, b, ()) = g_w_sameFloat a b := by kernel_rfl
def m_w_sameFloat : FM := { ps := [.ro false (.flt .f64), .ro false (.flt .f64)], res := .one false .bool, run := fun x => some (t_w_sameFloat x.1 x.2.1) }
set_option maxRecDepth 4000 in
theorem ok_w_sameFloat : FmOK Try.prog 37 m_w_sameFloat := @FmOK.made Try.prog E_w_sameFloat ek_w_sameFloat 37 Try.f37 noL m_w_sameFloat Try.func37 (by kernel_rfl) (Loops.none (by kernel_rfl)) fun ds out _ hr => by obtain ⟨a, b, ⟨⟩⟩ := ds; exact (ev_w_sameFloat a b).trans ((q_w_sameFloat a b).trans hr)

def E_w_eqVector : Tabs := (mkE tab [(37, m_w_sameFloat)] [])
set_option maxRecDepth 4000 in
theorem ek_w_eqVector : EnvOK Try.prog E_w_eqVector := (mkE_ok tab_ok mixed (AllF.cons ok_w_sameFloat AllF.nil) AllX.nil)
theorem ev_w_eqVector (a : dVec) (b : dVec) : evalF E_w_eqVector noL Try.f90 [.ro true tVec, .ro true tVec] (.one false .bool) (a, b, ()) = g_w_eqVector a b := by kernel_rfl
def m_w_eqVector : FM := { ps := [.ro true tVec, .ro true tVec], res := .one false .bool, run := fun x => some (t_w_eqVector x.1 x.2.1) }
set_option maxRecDepth 4000 in
theorem ok_w_eqVector : FmOK Try.prog 90 m_w_eqVector := @FmOK.made Try.prog E_w_eqVector ek_w_eqVector 90 Try.f90 noL m_w_eqVector Try.func90 (by kernel_rfl) (Loops.none (by kernel_rfl)) fun ds out _ hr => by obtain ⟨a, b, ⟨⟩⟩ := ds; exact (ev_w_eqVector a b).trans ((q_w_eqVector a b).trans hr)

def E_w_eqTurn : Tabs := (mkE tab [(37, m_w_sameFloat)] [])
set_option maxRecDepth 4000 in
theorem ek_w_eqTurn : EnvOK Try.prog E_w_eqTurn := (mkE_ok tab_ok mixed (AllF.cons ok_w_sameFloat AllF.nil) AllX.nil)
theorem ev_w_eqTurn (a : dTurn) (b : dTurn) : evalF E_w_eqTurn noL Try.f123 [.ro true tTurn, .ro true tTurn] (.one false .bool) (a, b, ()) = g_w_eqTurn a b := by kernel_rfl
def m_w_eqTurn : FM := { ps := [.ro true tTurn, .ro true tTurn], res := .one false .bool, run := fun x => some (t_w_eqTurn x.1 x.2.1) }
set_option maxRecDepth 4000 in
theorem ok_w_eqTurn : FmOK Try.prog 123 m_w_eqTurn := @FmOK.made Try.prog E_w_eqTurn ek_w_eqTurn 123 Try.f123 noL m_w_eqTurn Try.func123 (by kernel_rfl) (Loops.none (by kernel_rfl)) fun ds out _ hr => by obtain ⟨a, b, ⟨⟩⟩ := ds; exact (ev_w_eqTurn a b).trans ((q_w_eqTurn a b).trans hr)

def E_w_eqTurnS : Tabs := (mkE tab [(123, m_w_eqTurn)] [])
set_option maxRecDepth 4000 in
theorem ek_w_eqTurnS : EnvOK Try.prog E_w_eqTurnS := (mkE_ok tab_ok mixed (AllF.cons ok_w_eqTurn AllF.nil) AllX.nil)
def lm_L_w_eqTurnS_1 : LM := { mat := [], head := { slots := [(0, .dat false (.slice tTurn)), (1, .dat false (.slice tTurn)), (4, .dat false .bool), (5, .dat false (.int .i64))], blks := [] }, out := { slots := [(4, .dat false .bool)], blks := [] }, ex := 0, rets := true, run := iter L_w_eqTurnS_1 fuel }
def ll_w_eqTurnS : List (Nat × LP) := [(4, .lm lm_L_w_eqTurnS_1)]
theorem rd_L_w_eqTurnS_1 (rec' : ((List dTurn) × (List dTurn) × Bool × Int × Unit) × (Unit) → Option (Bool × ((Bool × Unit) × (Unit)))) (a : (List dTurn)) (b : (List dTurn)) (t4 : Bool) (i : Int) : round E_w_eqTurnS (lookL ll_w_eqTurnS) lm_L_w_eqTurnS_1 27 (loopAt Try.f42 0) rec' ((a, b, t4, i, ()), (())) = L_w_eqTurnS_1 rec' ((a, b, t4, i, ()), (())) := by kernel_rfl
theorem lo_w_eqTurnS : Loops E_w_eqTurnS (lookL ll_w_eqTurnS) Try.f42 := Loops.list (by kernel_rfl) (by kernel_rfl) ⟨LoopOK.iter (step := L_w_eqTurnS_1) (N := fun _ => fuel) (fun rec' x => by obtain ⟨⟨a, b, t4, i, ⟨⟩⟩, ⟨⟨⟩⟩⟩ := x; exact rd_L_w_eqTurnS_1 rec' a b t4 i) fun _ => rfl, trivial⟩
theorem ev_w_eqTurnS (a : (List dTurn)) (b : (List dTurn)) : evalF E_w_eqTurnS (lookL ll_w_eqTurnS) Try.f42 [.ro false (.slice tTurn), .ro false (.slice tTurn)] (.one false .bool) (a, b, ()) = g_w_eqTurnS a b := by kernel_rfl
def m_w_eqTurnS : FM := { ps := [.ro false (.slice tTurn), .ro false (.slice tTurn)], res := .one false .bool, run := fun x => g_w_eqTurnS x.1 x.2.1 }
set_option maxRecDepth 4000 in
theorem ok_w_eqTurnS : FmOK Try.prog 42 m_w_eqTurnS := @FmOK.made Try.prog E_w_eqTurnS ek_w_eqTurnS 42 Try.f42 (lookL ll_w_eqTurnS) m_w_eqTurnS Try.func42 (by kernel_rfl) lo_w_eqTurnS fun ds out _ hr => by obtain ⟨a, b, ⟨⟩⟩ := ds; exact (ev_w_eqTurnS a b).trans hr

def E_w_eqPose : Tabs := (mkE tab [(90, m_w_eqVector), (42, m_w_eqTurnS)] [])
set_option maxRecDepth 4000 in
theorem ek_w_eqPose : EnvOK Try.prog E_w_eqPose := (mkE_ok tab_ok mixed (AllF.cons ok_w_eqVector (AllF.cons ok_w_eqTurnS AllF.nil)) AllX.nil)
theorem ev_w_eqPose (a : dPose) (b : dPose) : evalF E_w_eqPose noL Try.f44 [.ro true tPose, .ro true tPose] (.one false .bool) (a, b, ()) = g_w_eqPose a b := by kernel_rfl
def m_w_eqPose : FM := { ps := [.ro true tPose, .ro true tPose], res := .one false .bool, run := fun x => g_w_eqPose x.1 x.2.1 }
set_option maxRecDepth 4000 in
theorem ok_w_eqPose : FmOK Try.prog 44 m_w_eqPose := @FmOK.made Try.prog E_w_eqPose ek_w_eqPose 44 Try.f44 noL m_w_eqPose Try.func44 (by kernel_rfl) (Loops.none (by kernel_rfl)) fun ds out _ hr => by obtain ⟨a, b, ⟨⟩⟩ := ds; exact (ev_w_eqPose a b).trans hr

def E_w_eqPoseS : Tabs := (mkE tab [(44, m_w_eqPose)] [])
set_option maxRecDepth 4000 in
theorem ek_w_eqPoseS : EnvOK Try.prog E_w_eqPoseS := (mkE_ok tab_ok mixed (AllF.cons ok_w_eqPose AllF.nil) AllX.nil)
def lm_L_w_eqPoseS_1 : LM := { mat := [], head := { slots := [(0, .dat false (.slice tPose)), (1, .dat false (.slice tPose)), (4, .dat false .bool), (5, .dat false (.int .i64))], blks := [] }, out := { slots := [(4, .dat false .bool)], blks := [] }, ex := 0, rets := true, run := iter L_w_eqPoseS_1 fuel }
def ll_w_eqPoseS : List (Nat × LP) := [(4, .lm lm_L_w_eqPoseS_1)]
theorem rd_L_w_eqPoseS_1 (rec' : ((List dPose) × (List dPose) × Bool × Int × Unit) × (Unit) → Option (Bool × ((Bool × Unit) × (Unit)))) (a : (List dPose)) (b : (List dPose)) (t4 : Bool) (i : Int) : round E_w_eqPoseS (lookL ll_w_eqPoseS) lm_L_w_eqPoseS_1 27 (loopAt Try.f71 0) rec' ((a, b, t4, i, ()), (())) = L_w_eqPoseS_1 rec' ((a, b, t4, i, ()), (())) := by kernel_rfl
theorem lo_w_eqPoseS : Loops E_w_eqPoseS (lookL ll_w_eqPoseS) Try.f71 := Loops.list (by kernel_rfl) (by kernel_rfl) ⟨LoopOK.iter (step := L_w_eqPoseS_1) (N := fun _ => fuel) (fun rec' x => by obtain ⟨⟨a, b, t4, i, ⟨⟩⟩, ⟨⟨⟩⟩⟩ := x; exact rd_L_w_eqPoseS_1 rec' a b t4 i) fun _ => rfl, trivial⟩
theorem ev_w_eqPoseS (a : (List dPose)) (b : (List dPose)) : evalF E_w_eqPoseS (lookL ll_w_eqPoseS) Try.f71 [.ro false (.slice tPose), .ro false (.slice tPose)] (.one false .bool) (a, b, ()) = g_w_eqPoseS a b := by kernel_rfl
def m_w_eqPoseS : FM := { ps := [.ro false (.slice tPose), .ro false (.slice tPose)], res := .one false .bool, run := fun x => g_w_eqPoseS x.1 x.2.1 }
set_option maxRecDepth 4000 in
theorem ok_w_eqPoseS : FmOK Try.prog 71 m_w_eqPoseS := @FmOK.made Try.prog E_w_eqPoseS ek_w_eqPoseS 71 Try.f71 (lookL ll_w_eqPoseS) m_w_eqPoseS Try.func71 (by kernel_rfl) lo_w_eqPoseS fun ds out _ hr => by obtain ⟨a, b, ⟨⟩⟩ := ds; exact (ev_w_eqPoseS a b).trans hr

def E_w_eqRecording : Tabs := (mkE tab [(71, m_w_eqPoseS)] [])
set_option maxRecDepth 4000 in
theorem ek_w_eqRecording : EnvOK Try.prog E_w_eqRecording := (mkE_ok tab_ok mixed (AllF.cons ok_w_eqPoseS AllF.nil) AllX.nil)
theorem ev_w_eqRecording (a : dRec) (b : dRec) : evalF E_w_eqRecording noL Try.f17 [.ro true tRec, .ro true tRec] (.one false .bool) (a, b, ()) = g_w_eqRecording a b := by kernel_rfl
def m_w_eqRecording : FM := { ps := [.ro true tRec, .ro true tRec], res := .one false .bool, run := fun x => g_w_eqRecording x.1 x.2.1 }
set_option maxRecDepth 4000 in
theorem ok_w_eqRecording : FmOK Try.prog 17 m_w_eqRecording := @FmOK.made Try.prog E_w_eqRecording ek_w_eqRecording 17 Try.f17 noL m_w_eqRecording Try.func17 (by kernel_rfl) (Loops.none (by kernel_rfl)) fun ds out _ hr => by obtain ⟨a, b, ⟨⟩⟩ := ds; exact (ev_w_eqRecording a b).trans hr

def E_w_FnExactSameRecording : Tabs := (mkE tab [(13, m_w_szRecording), (15, m_w_toRecording), (14, m_s_SameRecording), (16, m_i_SameRecording), (17, m_w_eqRecording)] [])
set_option maxRecDepth 4000 in
theorem ek_w_FnExactSameRecording : EnvOK Try.prog E_w_FnExactSameRecording := (mkE_ok tab_ok mixed (AllF.cons ok_w_szRecording (AllF.cons ok_w_toRecording (AllF.cons ok_s_SameRecording (AllF.cons ok_i_SameRecording (AllF.cons ok_w_eqRecording AllF.nil))))) AllX.nil)
theorem ev_w_FnExactSameRecording (aA : dRec) (aB : dRec) : evalF E_w_FnExactSameRecording noL Try.f3 [.ro true tRec, .ro true tRec] (.one false .bool) (aA, aB, ()) = g_w_FnExactSameRecording aA aB := by kernel_rfl
def m_w_FnExactSameRecording : FM := { ps := [.ro true tRec, .ro true tRec], res := .one false .bool, run := fun x => g_w_FnExactSameRecording x.1 x.2.1 }
set_option maxRecDepth 4000 in
theorem ok_w_FnExactSameRecording : FmOK Try.prog 3 m_w_FnExactSameRecording := @FmOK.made Try.prog E_w_FnExactSameRecording ek_w_FnExactSameRecording 3 Try.f3 noL m_w_FnExactSameRecording Try.func3 (by kernel_rfl) (Loops.none (by kernel_rfl)) fun ds out _ hr => by obtain ⟨aA, aB, ⟨⟩⟩ := ds; exact (ev_w_FnExactSameRecording aA aB).trans hr

def E_w_szVectorS : Tabs := (mkE tab [] [])
set_option maxRecDepth 4000 in
theorem ek_w_szVectorS : EnvOK Try.prog E_w_szVectorS := (mkE_ok tab_ok mixed AllF.nil AllX.nil)
theorem ev_w_szVectorS (a : (List dVec)) (left : Int) : evalF E_w_szVectorS noL Try.f51 [.ro false (.slice tVec), .ro false (.int .i64)] (.one false (.int .i64)) (a, left, ()) = g_w_szVectorS a left := by kernel_rfl
def m_w_szVectorS : FM := { ps := [.ro false (.slice tVec), .ro false (.int .i64)], res := .one false (.int .i64), run := fun x => some (t_w_szVectorS x.1 x.2.1) }
set_option maxRecDepth 4000 in
theorem ok_w_szVectorS : FmOK Try.prog 51 m_w_szVectorS := @FmOK.made Try.prog E_w_szVectorS ek_w_szVectorS 51 Try.f51 noL m_w_szVectorS Try.func51 (by kernel_rfl) (Loops.none (by kernel_rfl)) fun ds out _ hr => by obtain ⟨a, left, ⟨⟩⟩ := ds; exact (ev_w_szVectorS a left).trans ((q_w_szVectorS a left).trans hr)

def E_w_szBoolS : Tabs := (mkE tab [] [])
set_option maxRecDepth 4000 in
theorem ek_w_szBoolS : EnvOK Try.prog E_w_szBoolS := (mkE_ok tab_ok mixed AllF.nil AllX.nil)
theorem ev_w_szBoolS (a : (List Bool)) (left : Int) : evalF E_w_szBoolS noL Try.f72 [.ro false (.slice .bool), .ro false (.int .i64)] (.one false (.int .i64)) (a, left, ()) = g_w_szBoolS a left := by kernel_rfl
def m_w_szBoolS : FM := { ps := [.ro false (.slice .bool), .ro false (.int .i64)], res := .one false (.int .i64), run := fun x => some (t_w_szBoolS x.1 x.2.1) }
set_option maxRecDepth 4000 in
theorem ok_w_szBoolS : FmOK Try.prog 72 m_w_szBoolS := @FmOK.made Try.prog E_w_szBoolS ek_w_szBoolS 72 Try.f72 noL m_w_szBoolS Try.func72 (by kernel_rfl) (Loops.none (by kernel_rfl)) fun ds out _ hr => by obtain ⟨a, left, ⟨⟩⟩ := ds; exact (ev_w_szBoolS a left).trans ((q_w_szBoolS a left).trans hr)

def E_w_szFloat32S : Tabs := (mkE tab [] [])
set_option maxRecDepth 4000 in
theorem ek_w_szFloat32S : EnvOK Try.prog E_w_szFloat32S := (mkE_ok tab_ok mixed AllF.nil AllX.nil)
theorem ev_w_szFloat32S (a : (List Nat)) (left : Int) : evalF E_w_szFloat32S noL Try.f73 [.ro false (.slice (.flt .f32)), .ro false (.int .i64)] (.one false (.int .i64)) (a, left, ()) = g_w_szFloat32S a left := by kernel_rfl
def m_w_szFloat32S : FM := { ps := [.ro false (.slice (.flt .f32)), .ro false (.int .i64)], res := .one false (.int .i64), run := fun x => some (t_w_szFloat32S x.1 x.2.1) }
set_option maxRecDepth 4000 in
theorem ok_w_szFloat32S : FmOK Try.prog 73 m_w_szFloat32S := @FmOK.made Try.prog E_w_szFloat32S ek_w_szFloat32S 73 Try.f73 noL m_w_szFloat32S Try.func73 (by kernel_rfl) (Loops.none (by kernel_rfl)) fun ds out _ hr => by obtain ⟨a, left, ⟨⟩⟩ := ds; exact (ev_w_szFloat32S a left).trans ((q_w_szFloat32S a left).trans hr)

def E_w_szString : Tabs := (mkE tab [(51, m_w_szVectorS), (72, m_w_szBoolS), (73, m_w_szFloat32S)] [])
set_option maxRecDepth 4000 in
theorem ek_w_szString : EnvOK Try.prog E_w_szString := (mkE_ok tab_ok mixed (AllF.cons ok_w_szVectorS (AllF.cons ok_w_szBoolS (AllF.cons ok_w_szFloat32S AllF.nil))) AllX.nil)
theorem ev_w_szString (a : dString) (left : Int) : evalF E_w_szString noL Try.f18 [.ro true tString, .ro false (.int .i64)] (.one false (.int .i64)) (a, left, ()) = g_w_szString a left := by kernel_rfl
def m_w_szString : FM := { ps := [.ro true tString, .ro false (.int .i64)], res := .one false (.int .i64), run := fun x => some (t_w_szString x.1 x.2.1) }
set_option maxRecDepth 4000 in
theorem ok_w_szString : FmOK Try.prog 18 m_w_szString := @FmOK.made Try.prog E_w_szString ek_w_szString 18 Try.f18 noL m_w_szString Try.func18 (by kernel_rfl) (Loops.none (by kernel_rfl)) fun ds out _ hr => by obtain ⟨a, left, ⟨⟩⟩ := ds; exact (ev_w_szString a left).trans ((q_w_szString a left).trans hr)

def E_w_toVectorS : Tabs := (mkE tab [(81, m_w_toVector)] [])
set_option maxRecDepth 4000 in
theorem ek_w_toVectorS : EnvOK Try.prog E_w_toVectorS := (mkE_ok tab_ok mixed (AllF.cons ok_w_toVector AllF.nil) AllX.nil)
def lm_L_w_toVectorS_1 : LM := { mat := [], head := { slots := [(0, .dat false (.slice tVec)), (3, .cst (.sl (.row 0))), (4, .dat false (.int .i64))], blks := [.row false tVec] }, out := { slots := [(3, .cst (.sl (.row 0)))], blks := [.row false tVec] }, ex := 0, rets := false, run := iter L_w_toVectorS_1 fuel }
def ll_w_toVectorS : List (Nat × LP) := [(3, .lm lm_L_w_toVectorS_1)]
theorem rd_L_w_toVectorS_1 (rec' : ((List dVec) × Int × Unit) × ((List dVec) × Unit) → Option ((Unit) × ((List dVec) × Unit))) (a : (List dVec)) (i : Int) (r0 : (List dVec)) : round E_w_toVectorS (lookL ll_w_toVectorS) lm_L_w_toVectorS_1 23 (loopAt Try.f53 0) rec' ((a, i, ()), (r0, ())) = L_w_toVectorS_1 rec' ((a, i, ()), (r0, ())) := by kernel_rfl
theorem lo_w_toVectorS : Loops E_w_toVectorS (lookL ll_w_toVectorS) Try.f53 := Loops.list (by kernel_rfl) (by kernel_rfl) ⟨LoopOK.iter (step := L_w_toVectorS_1) (N := fun _ => fuel) (fun rec' x => by obtain ⟨⟨a, i, ⟨⟩⟩, ⟨r0, ⟨⟩⟩⟩ := x; exact rd_L_w_toVectorS_1 rec' a i r0) fun _ => rfl, trivial⟩
theorem ev_w_toVectorS (a : (List dVec)) : evalF E_w_toVectorS (lookL ll_w_toVectorS) Try.f53 [.ro false (.slice tVec)] (.one false (.slice tVec)) (a, ()) = g_w_toVectorS a := by kernel_rfl
def m_w_toVectorS : FM := { ps := [.ro false (.slice tVec)], res := .one false (.slice tVec), run := fun x => g_w_toVectorS x.1 }
set_option maxRecDepth 4000 in
theorem ok_w_toVectorS : FmOK Try.prog 53 m_w_toVectorS := @FmOK.made Try.prog E_w_toVectorS ek_w_toVectorS 53 Try.f53 (lookL ll_w_toVectorS) m_w_toVectorS Try.func53 (by kernel_rfl) lo_w_toVectorS fun ds out _ hr => by obtain ⟨a, ⟨⟩⟩ := ds; exact (ev_w_toVectorS a).trans hr

def E_w_toBoolS : Tabs := (mkE tab [] [])
set_option maxRecDepth 4000 in
theorem ek_w_toBoolS : EnvOK Try.prog E_w_toBoolS := (mkE_ok tab_ok mixed AllF.nil AllX.nil)
def lm_L_w_toBoolS_1 : LM := { mat := [], head := { slots := [(0, .dat false (.slice .bool)), (3, .cst (.sl (.row 0))), (4, .dat false (.int .i64))], blks := [.row false .bool] }, out := { slots := [(3, .cst (.sl (.row 0)))], blks := [.row false .bool] }, ex := 0, rets := false, run := iter L_w_toBoolS_1 fuel }
def ll_w_toBoolS : List (Nat × LP) := [(3, .lm lm_L_w_toBoolS_1)]
theorem rd_L_w_toBoolS_1 (rec' : ((List Bool) × Int × Unit) × ((List Bool) × Unit) → Option ((Unit) × ((List Bool) × Unit))) (a : (List Bool)) (i : Int) (r0 : (List Bool)) : round E_w_toBoolS (lookL ll_w_toBoolS) lm_L_w_toBoolS_1 22 (loopAt Try.f79 0) rec' ((a, i, ()), (r0, ())) = L_w_toBoolS_1 rec' ((a, i, ()), (r0, ())) := by kernel_rfl
theorem lo_w_toBoolS : Loops E_w_toBoolS (lookL ll_w_toBoolS) Try.f79 := Loops.list (by kernel_rfl) (by kernel_rfl) ⟨LoopOK.iter (step := L_w_toBoolS_1) (N := fun _ => fuel) (fun rec' x => by obtain ⟨⟨a, i, ⟨⟩⟩, ⟨r0, ⟨⟩⟩⟩ := x; exact rd_L_w_toBoolS_1 rec' a i r0) fun _ => rfl, trivial⟩
theorem ev_w_toBoolS (a : (List Bool)) : evalF E_w_toBoolS (lookL ll_w_toBoolS) Try.f79 [.ro false (.slice .bool)] (.one false (.slice .bool)) (a, ()) = g_w_toBoolS a := by kernel_rfl
def m_w_toBoolS : FM := { ps := [.ro false (.slice .bool)], res := .one false (.slice .bool), run := fun x => g_w_toBoolS x.1 }
set_option maxRecDepth 4000 in
theorem ok_w_toBoolS : FmOK Try.prog 79 m_w_toBoolS := @FmOK.made Try.prog E_w_toBoolS ek_w_toBoolS 79 Try.f79 (lookL ll_w_toBoolS) m_w_toBoolS Try.func79 (by kernel_rfl) lo_w_toBoolS fun ds out _ hr => by obtain ⟨a, ⟨⟩⟩ := ds; exact (ev_w_toBoolS a).trans hr

def E_w_toFloat32S : Tabs := (mkE tab [] [])
set_option maxRecDepth 4000 in
theorem ek_w_toFloat32S : EnvOK Try.prog E_w_toFloat32S := (mkE_ok tab_ok mixed AllF.nil AllX.nil)
def lm_L_w_toFloat32S_1 : LM := { mat := [], head := { slots := [(0, .dat false (.slice (.flt .f32))), (3, .cst (.sl (.row 0))), (4, .dat false (.int .i64))], blks := [.row false (.flt .f32)] }, out := { slots := [(3, .cst (.sl (.row 0)))], blks := [.row false (.flt .f32)] }, ex := 0, rets := false, run := iter L_w_toFloat32S_1 fuel }
def ll_w_toFloat32S : List (Nat × LP) := [(3, .lm lm_L_w_toFloat32S_1)]
theorem rd_L_w_toFloat32S_1 (rec' : ((List Nat) × Int × Unit) × ((List Nat) × Unit) → Option ((Unit) × ((List Nat) × Unit))) (a : (List Nat)) (i : Int) (r0 : (List Nat)) : round E_w_toFloat32S (lookL ll_w_toFloat32S) lm_L_w_toFloat32S_1 22 (loopAt Try.f80 0) rec' ((a, i, ()), (r0, ())) = L_w_toFloat32S_1 rec' ((a, i, ()), (r0, ())) := by kernel_rfl
theorem lo_w_toFloat32S : Loops E_w_toFloat32S (lookL ll_w_toFloat32S) Try.f80 := Loops.list (by kernel_rfl) (by kernel_rfl) ⟨LoopOK.iter (step := L_w_toFloat32S_1) (N := fun _ => fuel) (fun rec' x => by obtain ⟨⟨a, i, ⟨⟩⟩, ⟨r0, ⟨⟩⟩⟩ := x; exact rd_L_w_toFloat32S_1 rec' a i r0) fun _ => rfl, trivial⟩
theorem ev_w_toFloat32S (a : (List Nat)) : evalF E_w_toFloat32S (lookL ll_w_toFloat32S) Try.f80 [.ro false (.slice (.flt .f32))] (.one false (.slice (.flt .f32))) (a, ()) = g_w_toFloat32S a := by kernel_rfl
def m_w_toFloat32S : FM := { ps := [.ro false (.slice (.flt .f32))], res := .one false (.slice (.flt .f32)), run := fun x => g_w_toFloat32S x.1 }
set_option maxRecDepth 4000 in
theorem ok_w_toFloat32S : FmOK Try.prog 80 m_w_toFloat32S := @FmOK.made Try.prog E_w_toFloat32S ek_w_toFloat32S 80 Try.f80 (lookL ll_w_toFloat32S) m_w_toFloat32S Try.func80 (by kernel_rfl) lo_w_toFloat32S fun ds out _ hr => by obtain ⟨a, ⟨⟩⟩ := ds; exact (ev_w_toFloat32S a).trans hr

def E_w_toString : Tabs := (mkE tab [(53, m_w_toVectorS), (79, m_w_toBoolS), (80, m_w_toFloat32S), (81, m_w_toVector)] [])
set_option maxRecDepth 4000 in
theorem ek_w_toString : EnvOK Try.prog E_w_toString := (mkE_ok tab_ok mixed (AllF.cons ok_w_toVectorS (AllF.cons ok_w_toBoolS (AllF.cons ok_w_toFloat32S (AllF.cons ok_w_toVector AllF.nil)))) AllX.nil)
theorem ev_w_toString (a : dString) : evalF E_w_toString noL Try.f20 [.ro true tString] (.one true tString) (a, ()) = g_w_toString a := by kernel_rfl
def m_w_toString : FM := { ps := [.ro true tString], res := .one true tString, run := fun x => g_w_toString x.1 }
set_option maxRecDepth 4000 in
theorem ok_w_toString : FmOK Try.prog 20 m_w_toString := @FmOK.made Try.prog E_w_toString ek_w_toString 20 Try.f20 noL m_w_toString Try.func20 (by kernel_rfl) (Loops.none (by kernel_rfl)) fun ds out _ hr => by obtain ⟨a, ⟨⟩⟩ := ds; exact (ev_w_toString a).trans hr

def E_s_l04Points : Tabs := (mkE tab [(151, m_s_l00In)] [])
set_option maxRecDepth 4000 in
theorem ek_s_l04Points : EnvOK Try.prog E_s_l04Points := (mkE_ok tab_ok mixed (AllF.cons ok_s_l00In AllF.nil) AllX.nil)
theorem ev_s_l04Points (points : (List dVec)) : evalF E_s_l04Points noL Try.f150 [.ro false (.slice tVec)] (.one false .bool) (points, ()) = g_s_l04Points points := by kernel_rfl
def m_s_l04Points : FM := { ps := [.ro false (.slice tVec)], res := .one false .bool, run := fun x => some (t_s_l04Points x.1) }
set_option maxRecDepth 4000 in
theorem ok_s_l04Points : FmOK Try.prog 150 m_s_l04Points := @FmOK.made Try.prog E_s_l04Points ek_s_l04Points 150 Try.f150 noL m_s_l04Points Try.func150 (by kernel_rfl) (Loops.none (by kernel_rfl)) fun ds out _ hr => by obtain ⟨points, ⟨⟩⟩ := ds; exact (ev_s_l04Points points).trans ((q_s_l04Points points).trans hr)

def E_s_l08Is : Tabs := (mkE tab [(150, m_s_l04Points), (151, m_s_l00In)] [])
set_option maxRecDepth 4000 in
theorem ek_s_l08Is : EnvOK Try.prog E_s_l08Is := (mkE_ok tab_ok mixed (AllF.cons ok_s_l04Points (AllF.cons ok_s_l00In AllF.nil)) AllX.nil)
theorem ev_s_l08Is (s : dString) : evalF E_s_l08Is noL Try.f74 [.rptr tString] (.one false .bool) (s, ()) = g_s_l08Is s := by kernel_rfl
def m_s_l08Is : FM := { ps := [.rptr tString], res := .one false .bool, run := fun x => some (t_s_l08Is x.1) }
set_option maxRecDepth 4000 in
theorem ok_s_l08Is : FmOK Try.prog 74 m_s_l08Is := @FmOK.made Try.prog E_s_l08Is ek_s_l08Is 74 Try.f74 noL m_s_l08Is Try.func74 (by kernel_rfl) (Loops.none (by kernel_rfl)) fun ds out _ hr => by obtain ⟨s, ⟨⟩⟩ := ds; exact (ev_s_l08Is s).trans ((q_s_l08Is s).trans hr)

def E_s_l08List : Tabs := (mkE tab [(77, m_s_l01VSame)] [])
set_option maxRecDepth 4000 in
theorem ek_s_l08List : EnvOK Try.prog E_s_l08List := (mkE_ok tab_ok mixed (AllF.cons ok_s_l01VSame AllF.nil) AllX.nil)
def lm_L_s_l08List_1 : LM := { mat := [], head := { slots := [(0, .dat false (.slice tVec)), (1, .dat false (.slice tVec)), (4, .dat false .bool), (5, .dat false (.int .i64))], blks := [] }, out := { slots := [(4, .dat false .bool)], blks := [] }, ex := 0, rets := true, run := iter L_s_l08List_1 fuel }
def ll_s_l08List : List (Nat × LP) := [(4, .lm lm_L_s_l08List_1)]
theorem rd_L_s_l08List_1 (rec' : ((List dVec) × (List dVec) × Bool × Int × Unit) × (Unit) → Option (Bool × ((Bool × Unit) × (Unit)))) (a : (List dVec)) (b : (List dVec)) (t4 : Bool) (i : Int) : round E_s_l08List (lookL ll_s_l08List) lm_L_s_l08List_1 27 (loopAt Try.f75 0) rec' ((a, b, t4, i, ()), (())) = L_s_l08List_1 rec' ((a, b, t4, i, ()), (())) := by kernel_rfl
theorem lo_s_l08List : Loops E_s_l08List (lookL ll_s_l08List) Try.f75 := Loops.list (by kernel_rfl) (by kernel_rfl) ⟨LoopOK.iter (step := L_s_l08List_1) (N := fun _ => fuel) (fun rec' x => by obtain ⟨⟨a, b, t4, i, ⟨⟩⟩, ⟨⟨⟩⟩⟩ := x; exact rd_L_s_l08List_1 rec' a b t4 i) fun _ => rfl, trivial⟩
theorem ev_s_l08List (a : (List dVec)) (b : (List dVec)) : evalF E_s_l08List (lookL ll_s_l08List) Try.f75 [.ro false (.slice tVec), .ro false (.slice tVec)] (.one false .bool) (a, b, ()) = g_s_l08List a b := by kernel_rfl
def m_s_l08List : FM := { ps := [.ro false (.slice tVec), .ro false (.slice tVec)], res := .one false .bool, run := fun x => g_s_l08List x.1 x.2.1 }
set_option maxRecDepth 4000 in
theorem ok_s_l08List : FmOK Try.prog 75 m_s_l08List := @FmOK.made Try.prog E_s_l08List ek_s_l08List 75 Try.f75 (lookL ll_s_l08List) m_s_l08List Try.func75 (by kernel_rfl) lo_s_l08List fun ds out _ hr => by obtain ⟨a, b, ⟨⟩⟩ := ds; exact (ev_s_l08List a b).trans hr

def E_s_l01SameAll : Tabs := (mkE tab [(78, m_s_l01Same)] [])
set_option maxRecDepth 4000 in
theorem ek_s_l01SameAll : EnvOK Try.prog E_s_l01SameAll := (mkE_ok tab_ok mixed (AllF.cons ok_s_l01Same AllF.nil) AllX.nil)
def lm_L_s_l01SameAll_1 : LM := { mat := [], head := { slots := [(0, .dat false (.slice (.flt .f32))), (1, .dat false (.slice (.flt .f32))), (4, .dat false .bool), (5, .dat false (.int .i64))], blks := [] }, out := { slots := [(4, .dat false .bool)], blks := [] }, ex := 0, rets := true, run := iter L_s_l01SameAll_1 fuel }
def ll_s_l01SameAll : List (Nat × LP) := [(4, .lm lm_L_s_l01SameAll_1)]
theorem rd_L_s_l01SameAll_1 (rec' : ((List Nat) × (List Nat) × Bool × Int × Unit) × (Unit) → Option (Bool × ((Bool × Unit) × (Unit)))) (a : (List Nat)) (b : (List Nat)) (t4 : Bool) (i : Int) : round E_s_l01SameAll (lookL ll_s_l01SameAll) lm_L_s_l01SameAll_1 27 (loopAt Try.f76 0) rec' ((a, b, t4, i, ()), (())) = L_s_l01SameAll_1 rec' ((a, b, t4, i, ()), (())) := by kernel_rfl
theorem lo_s_l01SameAll : Loops E_s_l01SameAll (lookL ll_s_l01SameAll) Try.f76 := Loops.list (by kernel_rfl) (by kernel_rfl) ⟨LoopOK.iter (step := L_s_l01SameAll_1) (N := fun _ => fuel) (fun rec' x => by obtain ⟨⟨a, b, t4, i, ⟨⟩⟩, ⟨⟨⟩⟩⟩ := x; exact rd_L_s_l01SameAll_1 rec' a b t4 i) fun _ => rfl, trivial⟩
theorem ev_s_l01SameAll (a : (List Nat)) (b : (List Nat)) : evalF E_s_l01SameAll (lookL ll_s_l01SameAll) Try.f76 [.ro false (.slice (.flt .f32)), .ro false (.slice (.flt .f32))] (.one false .bool) (a, b, ()) = g_s_l01SameAll a b := by kernel_rfl
def m_s_l01SameAll : FM := { ps := [.ro false (.slice (.flt .f32)), .ro false (.slice (.flt .f32))], res := .one false .bool, run := fun x => g_s_l01SameAll x.1 x.2.1 }
set_option maxRecDepth 4000 in
theorem ok_s_l01SameAll : FmOK Try.prog 76 m_s_l01SameAll := @FmOK.made Try.prog E_s_l01SameAll ek_s_l01SameAll 76 Try.f76 (lookL ll_s_l01SameAll) m_s_l01SameAll Try.func76 (by kernel_rfl) lo_s_l01SameAll fun ds out _ hr => by obtain ⟨a, b, ⟨⟩⟩ := ds; exact (ev_s_l01SameAll a b).trans hr

def E_s_SameString : Tabs := (mkE tab [(74, m_s_l08Is), (75, m_s_l08List), (76, m_s_l01SameAll), (77, m_s_l01VSame), (78, m_s_l01Same)] [])
set_option maxRecDepth 4000 in
theorem ek_s_SameString : EnvOK Try.prog E_s_SameString := (mkE_ok tab_ok mixed (AllF.cons ok_s_l08Is (AllF.cons ok_s_l08List (AllF.cons ok_s_l01SameAll (AllF.cons ok_s_l01VSame (AllF.cons ok_s_l01Same AllF.nil))))) AllX.nil)
def lm_L_s_SameString_1 : LM := { mat := [], head := { slots := [(2, .cst (.ptr (.box 0 0))), (3, .cst (.ptr (.box 1 0))), (4, .dat false .bool), (5, .dat false (.int .i64))], blks := [.box [.dat tString], .box [.dat tString]] }, out := { slots := [(2, .cst (.ptr (.box 0 0))), (3, .cst (.ptr (.box 1 0))), (4, .dat false .bool)], blks := [.box [.dat tString], .box [.dat tString]] }, ex := 0, rets := true, run := iter L_s_SameString_1 fuel }
def ll_s_SameString : List (Nat × LP) := [(4, .lm lm_L_s_SameString_1)]
theorem rd_L_s_SameString_1 (rec' : (Bool × Int × Unit) × ((dString × Unit) × (dString × Unit) × Unit) → Option (Bool × ((Bool × Unit) × ((dString × Unit) × (dString × Unit) × Unit)))) (t4 : Bool) (i : Int) (b0 : dString) (b1 : dString) : round E_s_SameString (lookL ll_s_SameString) lm_L_s_SameString_1 72 (loopAt Try.f19 0) rec' ((t4, i, ()), ((b0, ()), (b1, ()), ())) = L_s_SameString_1 rec' ((t4, i, ()), ((b0, ()), (b1, ()), ())) := by kernel_rfl
theorem lo_s_SameString : Loops E_s_SameString (lookL ll_s_SameString) Try.f19 := Loops.list (by kernel_rfl) (by kernel_rfl) ⟨LoopOK.iter (step := L_s_SameString_1) (N := fun _ => fuel) (fun rec' x => by obtain ⟨⟨t4, i, ⟨⟩⟩, ⟨⟨b0, ⟨⟩⟩, ⟨b1, ⟨⟩⟩, ⟨⟩⟩⟩ := x; exact rd_L_s_SameString_1 rec' t4 i b0 b1) fun _ => rfl, trivial⟩
theorem ev_s_SameString (a : dString) (b : dString) : evalF E_s_SameString (lookL ll_s_SameString) Try.f19 [.ro true tString, .ro true tString] (.one false .bool) (a, b, ()) = g_s_SameString a b := by kernel_rfl
def m_s_SameString : FM := { ps := [.ro true tString, .ro true tString], res := .one false .bool, run := fun x => g_s_SameString x.1 x.2.1 }
set_option maxRecDepth 4000 in
theorem ok_s_SameString : FmOK Try.prog 19 m_s_SameString := @FmOK.made Try.prog E_s_SameString ek_s_SameString 19 Try.f19 (lookL ll_s_SameString) m_s_SameString Try.func19 (by kernel_rfl) lo_s_SameString fun ds out _ hr => by obtain ⟨a, b, ⟨⟩⟩ := ds; exact (ev_s_SameString a b).trans hr

def E_i_arePoints : Tabs := (mkE tab [] [])
set_option maxRecDepth 4000 in
theorem ek_i_arePoints : EnvOK Try.prog E_i_arePoints := (mkE_ok tab_ok mixed AllF.nil AllX.nil)
theorem ev_i_arePoints (points : (List dVec)) : evalF E_i_arePoints noL Try.f153 [.ro false (.slice tVec)] (.one false .bool) (points, ()) = g_i_arePoints points := by kernel_rfl
def m_i_arePoints : FM := { ps := [.ro false (.slice tVec)], res := .one false .bool, run := fun x => some (t_i_arePoints x.1) }
set_option maxRecDepth 4000 in
theorem ok_i_arePoints : FmOK Try.prog 153 m_i_arePoints := @FmOK.made Try.prog E_i_arePoints ek_i_arePoints 153 Try.f153 noL m_i_arePoints Try.func153 (by kernel_rfl) (Loops.none (by kernel_rfl)) fun ds out _ hr => by obtain ⟨points, ⟨⟩⟩ := ds; exact (ev_i_arePoints points).trans ((q_i_arePoints points).trans hr)

def E_i_ValidString : Tabs := (mkE tab [(153, m_i_arePoints)] [])
set_option maxRecDepth 4000 in
theorem ek_i_ValidString : EnvOK Try.prog E_i_ValidString := (mkE_ok tab_ok mixed (AllF.cons ok_i_arePoints AllF.nil) AllX.nil)
theorem ev_i_ValidString (s : dString) : evalF E_i_ValidString noL Try.f82 [.ro true tString] (.one false .bool) (s, ()) = g_i_ValidString s := by kernel_rfl
def m_i_ValidString : FM := { ps := [.ro true tString], res := .one false .bool, run := fun x => some (t_i_ValidString x.1) }
set_option maxRecDepth 4000 in
theorem ok_i_ValidString : FmOK Try.prog 82 m_i_ValidString := @FmOK.made Try.prog E_i_ValidString ek_i_ValidString 82 Try.f82 noL m_i_ValidString Try.func82 (by kernel_rfl) (Loops.none (by kernel_rfl)) fun ds out _ hr => by obtain ⟨s, ⟨⟩⟩ := ds; exact (ev_i_ValidString s).trans ((q_i_ValidString s).trans hr)

def E_slices_EqualFunc_i_Vector_i_Vector_i_Vector_i_Vector : Tabs := (mkE tab [(84, m_i_SameVector)] [])
set_option maxRecDepth 4000 in
theorem ek_slices_EqualFunc_i_Vector_i_Vector_i_Vector_i_Vector : EnvOK Try.prog E_slices_EqualFunc_i_Vector_i_Vector_i_Vector_i_Vector := (mkE_ok tab_ok mixed (AllF.cons ok_i_SameVector AllF.nil) AllX.nil)
def lm_L_slices_EqualFunc_i_Vector_i_Vector_i_Vector_i_Vector_1 : LM := { mat := [], head := { slots := [(1, .dat false (.slice tVec)), (2, .cst (.fn 84 [])), (6, .dat false .bool), (15, .dat false (.slice tVec)), (16, .dat false (.int .i64)), (17, .dat false (.int .i64))], blks := [] }, out := { slots := [(6, .dat false .bool)], blks := [] }, ex := 0, rets := true, run := iter L_slices_EqualFunc_i_Vector_i_Vector_i_Vector_i_Vector_1 fuel }
def ll_slices_EqualFunc_i_Vector_i_Vector_i_Vector_i_Vector : List (Nat × LP) := [(4, .lm lm_L_slices_EqualFunc_i_Vector_i_Vector_i_Vector_i_Vector_1)]
theorem rd_L_slices_EqualFunc_i_Vector_i_Vector_i_Vector_i_Vector_1 (rec' : ((List dVec) × Bool × (List dVec) × Int × Int × Unit) × (Unit) → Option (Bool × ((Bool × Unit) × (Unit)))) (s2 : (List dVec)) (t6 : Bool) (t15 : (List dVec)) (t16 : Int) (t17 : Int) : round E_slices_EqualFunc_i_Vector_i_Vector_i_Vector_i_Vector (lookL ll_slices_EqualFunc_i_Vector_i_Vector_i_Vector_i_Vector) lm_L_slices_EqualFunc_i_Vector_i_Vector_i_Vector_i_Vector_1 32 (loopAt Try.f83 0) rec' ((s2, t6, t15, t16, t17, ()), (())) = L_slices_EqualFunc_i_Vector_i_Vector_i_Vector_i_Vector_1 rec' ((s2, t6, t15, t16, t17, ()), (())) := by kernel_rfl
theorem lo_slices_EqualFunc_i_Vector_i_Vector_i_Vector_i_Vector : Loops E_slices_EqualFunc_i_Vector_i_Vector_i_Vector_i_Vector (lookL ll_slices_EqualFunc_i_Vector_i_Vector_i_Vector_i_Vector) Try.f83 := Loops.list (by kernel_rfl) (by kernel_rfl) ⟨LoopOK.iter (step := L_slices_EqualFunc_i_Vector_i_Vector_i_Vector_i_Vector_1) (N := fun _ => fuel) (fun rec' x => by obtain ⟨⟨s2, t6, t15, t16, t17, ⟨⟩⟩, ⟨⟨⟩⟩⟩ := x; exact rd_L_slices_EqualFunc_i_Vector_i_Vector_i_Vector_i_Vector_1 rec' s2 t6 t15 t16 t17) fun _ => rfl, trivial⟩
theorem ev_slices_EqualFunc_i_Vector_i_Vector_i_Vector_i_Vector (s1 : (List dVec)) (s2 : (List dVec)) (eq : Unit) : evalF E_slices_EqualFunc_i_Vector_i_Vector_i_Vector_i_Vector (lookL ll_slices_EqualFunc_i_Vector_i_Vector_i_Vector_i_Vector) Try.f83 [.ro false (.slice tVec), .ro false (.slice tVec), .fnc 84 []] (.one false .bool) (s1, s2, eq, ()) = g_slices_EqualFunc_i_Vector_i_Vector_i_Vector_i_Vector s1 s2 eq := by kernel_rfl
def m_slices_EqualFunc_i_Vector_i_Vector_i_Vector_i_Vector : FM := { ps := [.ro false (.slice tVec), .ro false (.slice tVec), .fnc 84 []], res := .one false .bool, run := fun x => g_slices_EqualFunc_i_Vector_i_Vector_i_Vector_i_Vector x.1 x.2.1 x.2.2.1 }
set_option maxRecDepth 4000 in
theorem ok_slices_EqualFunc_i_Vector_i_Vector_i_Vector_i_Vector : FmOK Try.prog 83 m_slices_EqualFunc_i_Vector_i_Vector_i_Vector_i_Vector := @FmOK.made Try.prog E_slices_EqualFunc_i_Vector_i_Vector_i_Vector_i_Vector ek_slices_EqualFunc_i_Vector_i_Vector_i_Vector_i_Vector 83 Try.f83 (lookL ll_slices_EqualFunc_i_Vector_i_Vector_i_Vector_i_Vector) m_slices_EqualFunc_i_Vector_i_Vector_i_Vector_i_Vector Try.func83 (by kernel_rfl) lo_slices_EqualFunc_i_Vector_i_Vector_i_Vector_i_Vector fun ds out _ hr => by obtain ⟨s1, s2, eq, ⟨⟩⟩ := ds; exact (ev_slices_EqualFunc_i_Vector_i_Vector_i_Vector_i_Vector s1 s2 eq).trans hr

def E_slices_Equal_bool_bool : Tabs := (mkE tab [] [])
set_option maxRecDepth 4000 in
theorem ek_slices_Equal_bool_bool : EnvOK Try.prog E_slices_Equal_bool_bool := (mkE_ok tab_ok mixed AllF.nil AllX.nil)
def lm_L_slices_Equal_bool_bool_1 : LM := { mat := [], head := { slots := [(0, .dat false (.slice .bool)), (1, .dat false (.slice .bool)), (4, .dat false .bool), (12, .dat false (.int .i64)), (13, .dat false (.int .i64))], blks := [] }, out := { slots := [(4, .dat false .bool)], blks := [] }, ex := 0, rets := true, run := iter L_slices_Equal_bool_bool_1 fuel }
def ll_slices_Equal_bool_bool : List (Nat × LP) := [(4, .lm lm_L_slices_Equal_bool_bool_1)]
theorem rd_L_slices_Equal_bool_bool_1 (rec' : ((List Bool) × (List Bool) × Bool × Int × Int × Unit) × (Unit) → Option (Bool × ((Bool × Unit) × (Unit)))) (s1 : (List Bool)) (s2 : (List Bool)) (t4 : Bool) (t12 : Int) (t13 : Int) : round E_slices_Equal_bool_bool (lookL ll_slices_Equal_bool_bool) lm_L_slices_Equal_bool_bool_1 26 (loopAt Try.f85 0) rec' ((s1, s2, t4, t12, t13, ()), (())) = L_slices_Equal_bool_bool_1 rec' ((s1, s2, t4, t12, t13, ()), (())) := by kernel_rfl
theorem lo_slices_Equal_bool_bool : Loops E_slices_Equal_bool_bool (lookL ll_slices_Equal_bool_bool) Try.f85 := Loops.list (by kernel_rfl) (by kernel_rfl) ⟨LoopOK.iter (step := L_slices_Equal_bool_bool_1) (N := fun _ => fuel) (fun rec' x => by obtain ⟨⟨s1, s2, t4, t12, t13, ⟨⟩⟩, ⟨⟨⟩⟩⟩ := x; exact rd_L_slices_Equal_bool_bool_1 rec' s1 s2 t4 t12 t13) fun _ => rfl, trivial⟩
theorem ev_slices_Equal_bool_bool (s1 : (List Bool)) (s2 : (List Bool)) : evalF E_slices_Equal_bool_bool (lookL ll_slices_Equal_bool_bool) Try.f85 [.ro false (.slice .bool), .ro false (.slice .bool)] (.one false .bool) (s1, s2, ()) = g_slices_Equal_bool_bool s1 s2 := by kernel_rfl
def m_slices_Equal_bool_bool : FM := { ps := [.ro false (.slice .bool), .ro false (.slice .bool)], res := .one false .bool, run := fun x => g_slices_Equal_bool_bool x.1 x.2.1 }
set_option maxRecDepth 4000 in
theorem ok_slices_Equal_bool_bool : FmOK Try.prog 85 m_slices_Equal_bool_bool := @FmOK.made Try.prog E_slices_Equal_bool_bool ek_slices_Equal_bool_bool 85 Try.f85 (lookL ll_slices_Equal_bool_bool) m_slices_Equal_bool_bool Try.func85 (by kernel_rfl) lo_slices_Equal_bool_bool fun ds out _ hr => by obtain ⟨s1, s2, ⟨⟩⟩ := ds; exact (ev_slices_Equal_bool_bool s1 s2).trans hr

def E_slices_EqualFunc_float32_float32_float32_float32 : Tabs := (mkE tab [(87, m_i_SameNumber)] [])
set_option maxRecDepth 4000 in
theorem ek_slices_EqualFunc_float32_float32_float32_float32 : EnvOK Try.prog E_slices_EqualFunc_float32_float32_float32_float32 := (mkE_ok tab_ok mixed (AllF.cons ok_i_SameNumber AllF.nil) AllX.nil)
def lm_L_slices_EqualFunc_float32_float32_float32_float32_1 : LM := { mat := [], head := { slots := [(1, .dat false (.slice (.flt .f32))), (2, .cst (.fn 87 [])), (6, .dat false .bool), (15, .dat false (.slice (.flt .f32))), (16, .dat false (.int .i64)), (17, .dat false (.int .i64))], blks := [] }, out := { slots := [(6, .dat false .bool)], blks := [] }, ex := 0, rets := true, run := iter L_slices_EqualFunc_float32_float32_float32_float32_1 fuel }
def ll_slices_EqualFunc_float32_float32_float32_float32 : List (Nat × LP) := [(4, .lm lm_L_slices_EqualFunc_float32_float32_float32_float32_1)]
theorem rd_L_slices_EqualFunc_float32_float32_float32_float32_1 (rec' : ((List Nat) × Bool × (List Nat) × Int × Int × Unit) × (Unit) → Option (Bool × ((Bool × Unit) × (Unit)))) (s2 : (List Nat)) (t6 : Bool) (t15 : (List Nat)) (t16 : Int) (t17 : Int) : round E_slices_EqualFunc_float32_float32_float32_float32 (lookL ll_slices_EqualFunc_float32_float32_float32_float32) lm_L_slices_EqualFunc_float32_float32_float32_float32_1 32 (loopAt Try.f86 0) rec' ((s2, t6, t15, t16, t17, ()), (())) = L_slices_EqualFunc_float32_float32_float32_float32_1 rec' ((s2, t6, t15, t16, t17, ()), (())) := by kernel_rfl
theorem lo_slices_EqualFunc_float32_float32_float32_float32 : Loops E_slices_EqualFunc_float32_float32_float32_float32 (lookL ll_slices_EqualFunc_float32_float32_float32_float32) Try.f86 := Loops.list (by kernel_rfl) (by kernel_rfl) ⟨LoopOK.iter (step := L_slices_EqualFunc_float32_float32_float32_float32_1) (N := fun _ => fuel) (fun rec' x => by obtain ⟨⟨s2, t6, t15, t16, t17, ⟨⟩⟩, ⟨⟨⟩⟩⟩ := x; exact rd_L_slices_EqualFunc_float32_float32_float32_float32_1 rec' s2 t6 t15 t16 t17) fun _ => rfl, trivial⟩
theorem ev_slices_EqualFunc_float32_float32_float32_float32 (s1 : (List Nat)) (s2 : (List Nat)) (eq : Unit) : evalF E_slices_EqualFunc_float32_float32_float32_float32 (lookL ll_slices_EqualFunc_float32_float32_float32_float32) Try.f86 [.ro false (.slice (.flt .f32)), .ro false (.slice (.flt .f32)), .fnc 87 []] (.one false .bool) (s1, s2, eq, ()) = g_slices_EqualFunc_float32_float32_float32_float32 s1 s2 eq := by kernel_rfl
def m_slices_EqualFunc_float32_float32_float32_float32 : FM := { ps := [.ro false (.slice (.flt .f32)), .ro false (.slice (.flt .f32)), .fnc 87 []], res := .one false .bool, run := fun x => g_slices_EqualFunc_float32_float32_float32_float32 x.1 x.2.1 x.2.2.1 }
set_option maxRecDepth 4000 in
theorem ok_slices_EqualFunc_float32_float32_float32_float32 : FmOK Try.prog 86 m_slices_EqualFunc_float32_float32_float32_float32 := @FmOK.made Try.prog E_slices_EqualFunc_float32_float32_float32_float32 ek_slices_EqualFunc_float32_float32_float32_float32 86 Try.f86 (lookL ll_slices_EqualFunc_float32_float32_float32_float32) m_slices_EqualFunc_float32_float32_float32_float32 Try.func86 (by kernel_rfl) lo_slices_EqualFunc_float32_float32_float32_float32 fun ds out _ hr => by obtain ⟨s1, s2, eq, ⟨⟩⟩ := ds; exact (ev_slices_EqualFunc_float32_float32_float32_float32 s1 s2 eq).trans hr

def E_i_SameString : Tabs := (mkE tab [(82, m_i_ValidString), (83, m_slices_EqualFunc_i_Vector_i_Vector_i_Vector_i_Vector), (85, m_slices_Equal_bool_bool), (86, m_slices_EqualFunc_float32_float32_float32_float32), (84, m_i_SameVector), (87, m_i_SameNumber)] [])
set_option maxRecDepth 4000 in
theorem ek_i_SameString : EnvOK Try.prog E_i_SameString := (mkE_ok tab_ok mixed (AllF.cons ok_i_ValidString (AllF.cons ok_slices_EqualFunc_i_Vector_i_Vector_i_Vector_i_Vector (AllF.cons ok_slices_Equal_bool_bool (AllF.cons ok_slices_EqualFunc_float32_float32_float32_float32 (AllF.cons ok_i_SameVector (AllF.cons ok_i_SameNumber AllF.nil)))))) AllX.nil)
theorem ev_i_SameString (a : dString) (b : dString) : evalF E_i_SameString noL Try.f21 [.ro true tString, .ro true tString] (.one false .bool) (a, b, ()) = g_i_SameString a b := by kernel_rfl
def m_i_SameString : FM := { ps := [.ro true tString, .ro true tString], res := .one false .bool, run := fun x => g_i_SameString x.1 x.2.1 }
set_option maxRecDepth 4000 in
theorem ok_i_SameString : FmOK Try.prog 21 m_i_SameString := @FmOK.made Try.prog E_i_SameString ek_i_SameString 21 Try.f21 noL m_i_SameString Try.func21 (by kernel_rfl) (Loops.none (by kernel_rfl)) fun ds out _ hr => by obtain ⟨a, b, ⟨⟩⟩ := ds; exact (ev_i_SameString a b).trans hr

def E_w_eqVectorS : Tabs := (mkE tab [(90, m_w_eqVector)] [])
set_option maxRecDepth 4000 in
theorem ek_w_eqVectorS : EnvOK Try.prog E_w_eqVectorS := (mkE_ok tab_ok mixed (AllF.cons ok_w_eqVector AllF.nil) AllX.nil)
def lm_L_w_eqVectorS_1 : LM := { mat := [], head := { slots := [(0, .dat false (.slice tVec)), (1, .dat false (.slice tVec)), (4, .dat false .bool), (5, .dat false (.int .i64))], blks := [] }, out := { slots := [(4, .dat false .bool)], blks := [] }, ex := 0, rets := true, run := iter L_w_eqVectorS_1 fuel }
def ll_w_eqVectorS : List (Nat × LP) := [(4, .lm lm_L_w_eqVectorS_1)]
theorem rd_L_w_eqVectorS_1 (rec' : ((List dVec) × (List dVec) × Bool × Int × Unit) × (Unit) → Option (Bool × ((Bool × Unit) × (Unit)))) (a : (List dVec)) (b : (List dVec)) (t4 : Bool) (i : Int) : round E_w_eqVectorS (lookL ll_w_eqVectorS) lm_L_w_eqVectorS_1 27 (loopAt Try.f43 0) rec' ((a, b, t4, i, ()), (())) = L_w_eqVectorS_1 rec' ((a, b, t4, i, ()), (())) := by kernel_rfl
theorem lo_w_eqVectorS : Loops E_w_eqVectorS (lookL ll_w_eqVectorS) Try.f43 := Loops.list (by kernel_rfl) (by kernel_rfl) ⟨LoopOK.iter (step := L_w_eqVectorS_1) (N := fun _ => fuel) (fun rec' x => by obtain ⟨⟨a, b, t4, i, ⟨⟩⟩, ⟨⟨⟩⟩⟩ := x; exact rd_L_w_eqVectorS_1 rec' a b t4 i) fun _ => rfl, trivial⟩
theorem ev_w_eqVectorS (a : (List dVec)) (b : (List dVec)) : evalF E_w_eqVectorS (lookL ll_w_eqVectorS) Try.f43 [.ro false (.slice tVec), .ro false (.slice tVec)] (.one false .bool) (a, b, ()) = g_w_eqVectorS a b := by kernel_rfl
def m_w_eqVectorS : FM := { ps := [.ro false (.slice tVec), .ro false (.slice tVec)], res := .one false .bool, run := fun x => g_w_eqVectorS x.1 x.2.1 }
set_option maxRecDepth 4000 in
theorem ok_w_eqVectorS : FmOK Try.prog 43 m_w_eqVectorS := @FmOK.made Try.prog E_w_eqVectorS ek_w_eqVectorS 43 Try.f43 (lookL ll_w_eqVectorS) m_w_eqVectorS Try.func43 (by kernel_rfl) lo_w_eqVectorS fun ds out _ hr => by obtain ⟨a, b, ⟨⟩⟩ := ds; exact (ev_w_eqVectorS a b).trans hr

def E_w_eqBoolS : Tabs := (mkE tab [] [])
set_option maxRecDepth 4000 in
theorem ek_w_eqBoolS : EnvOK Try.prog E_w_eqBoolS := (mkE_ok tab_ok mixed AllF.nil AllX.nil)
def lm_L_w_eqBoolS_1 : LM := { mat := [], head := { slots := [(0, .dat false (.slice .bool)), (1, .dat false (.slice .bool)), (4, .dat false .bool), (5, .dat false (.int .i64))], blks := [] }, out := { slots := [(4, .dat false .bool)], blks := [] }, ex := 0, rets := true, run := iter L_w_eqBoolS_1 fuel }
def ll_w_eqBoolS : List (Nat × LP) := [(4, .lm lm_L_w_eqBoolS_1)]
theorem rd_L_w_eqBoolS_1 (rec' : ((List Bool) × (List Bool) × Bool × Int × Unit) × (Unit) → Option (Bool × ((Bool × Unit) × (Unit)))) (a : (List Bool)) (b : (List Bool)) (t4 : Bool) (i : Int) : round E_w_eqBoolS (lookL ll_w_eqBoolS) lm_L_w_eqBoolS_1 26 (loopAt Try.f88 0) rec' ((a, b, t4, i, ()), (())) = L_w_eqBoolS_1 rec' ((a, b, t4, i, ()), (())) := by kernel_rfl
theorem lo_w_eqBoolS : Loops E_w_eqBoolS (lookL ll_w_eqBoolS) Try.f88 := Loops.list (by kernel_rfl) (by kernel_rfl) ⟨LoopOK.iter (step := L_w_eqBoolS_1) (N := fun _ => fuel) (fun rec' x => by obtain ⟨⟨a, b, t4, i, ⟨⟩⟩, ⟨⟨⟩⟩⟩ := x; exact rd_L_w_eqBoolS_1 rec' a b t4 i) fun _ => rfl, trivial⟩
theorem ev_w_eqBoolS (a : (List Bool)) (b : (List Bool)) : evalF E_w_eqBoolS (lookL ll_w_eqBoolS) Try.f88 [.ro false (.slice .bool), .ro false (.slice .bool)] (.one false .bool) (a, b, ()) = g_w_eqBoolS a b := by kernel_rfl
def m_w_eqBoolS : FM := { ps := [.ro false (.slice .bool), .ro false (.slice .bool)], res := .one false .bool, run := fun x => g_w_eqBoolS x.1 x.2.1 }
set_option maxRecDepth 4000 in
theorem ok_w_eqBoolS : FmOK Try.prog 88 m_w_eqBoolS := @FmOK.made Try.prog E_w_eqBoolS ek_w_eqBoolS 88 Try.f88 (lookL ll_w_eqBoolS) m_w_eqBoolS Try.func88 (by kernel_rfl) lo_w_eqBoolS fun ds out _ hr => by obtain ⟨a, b, ⟨⟩⟩ := ds; exact (ev_w_eqBoolS a b).trans hr

def E_w_eqFloat32S : Tabs := (mkE tab [(37, m_w_sameFloat)] [])
set_option maxRecDepth 4000 in
theorem ek_w_eqFloat32S : EnvOK Try.prog E_w_eqFloat32S := (mkE_ok tab_ok mixed (AllF.cons ok_w_sameFloat AllF.nil) AllX.nil)
def lm_L_w_eqFloat32S_1 : LM := { mat := [], head := { slots := [(0, .dat false (.slice (.flt .f32))), (1, .dat false (.slice (.flt .f32))), (4, .dat false .bool), (5, .dat false (.int .i64))], blks := [] }, out := { slots := [(4, .dat false .bool)], blks := [] }, ex := 0, rets := true, run := iter L_w_eqFloat32S_1 fuel }
def ll_w_eqFloat32S : List (Nat × LP) := [(4, .lm lm_L_w_eqFloat32S_1)]
theorem rd_L_w_eqFloat32S_1 (rec' : ((List Nat) × (List Nat) × Bool × Int × Unit) × (Unit) → Option (Bool × ((Bool × Unit) × (Unit)))) (a : (List Nat)) (b : (List Nat)) (t4 : Bool) (i : Int) : round E_w_eqFloat32S (lookL ll_w_eqFloat32S) lm_L_w_eqFloat32S_1 29 (loopAt Try.f89 0) rec' ((a, b, t4, i, ()), (())) = L_w_eqFloat32S_1 rec' ((a, b, t4, i, ()), (())) := by kernel_rfl
theorem lo_w_eqFloat32S : Loops E_w_eqFloat32S (lookL ll_w_eqFloat32S) Try.f89 := Loops.list (by kernel_rfl) (by kernel_rfl) ⟨LoopOK.iter (step := L_w_eqFloat32S_1) (N := fun _ => fuel) (fun rec' x => by obtain ⟨⟨a, b, t4, i, ⟨⟩⟩, ⟨⟨⟩⟩⟩ := x; exact rd_L_w_eqFloat32S_1 rec' a b t4 i) fun _ => rfl, trivial⟩
theorem ev_w_eqFloat32S (a : (List Nat)) (b : (List Nat)) : evalF E_w_eqFloat32S (lookL ll_w_eqFloat32S) Try.f89 [.ro false (.slice (.flt .f32)), .ro false (.slice (.flt .f32))] (.one false .bool) (a, b, ()) = g_w_eqFloat32S a b := by kernel_rfl
def m_w_eqFloat32S : FM := { ps := [.ro false (.slice (.flt .f32)), .ro false (.slice (.flt .f32))], res := .one false .bool, run := fun x => g_w_eqFloat32S x.1 x.2.1 }
set_option maxRecDepth 4000 in
theorem ok_w_eqFloat32S : FmOK Try.prog 89 m_w_eqFloat32S := @FmOK.made Try.prog E_w_eqFloat32S ek_w_eqFloat32S 89 Try.f89 (lookL ll_w_eqFloat32S) m_w_eqFloat32S Try.func89 (by kernel_rfl) lo_w_eqFloat32S fun ds out _ hr => by obtain ⟨a, b, ⟨⟩⟩ := ds; exact (ev_w_eqFloat32S a b).trans hr

def E_w_eqString : Tabs := (mkE tab [(43, m_w_eqVectorS), (88, m_w_eqBoolS), (89, m_w_eqFloat32S), (90, m_w_eqVector), (37, m_w_sameFloat)] [])
set_option maxRecDepth 4000 in
theorem ek_w_eqString : EnvOK Try.prog E_w_eqString := (mkE_ok tab_ok mixed (AllF.cons ok_w_eqVectorS (AllF.cons ok_w_eqBoolS (AllF.cons ok_w_eqFloat32S (AllF.cons ok_w_eqVector (AllF.cons ok_w_sameFloat AllF.nil))))) AllX.nil)
theorem ev_w_eqString (a : dString) (b : dString) : evalF E_w_eqString noL Try.f22 [.ro true tString, .ro true tString] (.one false .bool) (a, b, ()) = g_w_eqString a b := by kernel_rfl
def m_w_eqString : FM := { ps := [.ro true tString, .ro true tString], res := .one false .bool, run := fun x => g_w_eqString x.1 x.2.1 }
set_option maxRecDepth 4000 in
theorem ok_w_eqString : FmOK Try.prog 22 m_w_eqString := @FmOK.made Try.prog E_w_eqString ek_w_eqString 22 Try.f22 noL m_w_eqString Try.func22 (by kernel_rfl) (Loops.none (by kernel_rfl)) fun ds out _ hr => by obtain ⟨a, b, ⟨⟩⟩ := ds; exact (ev_w_eqString a b).trans hr

def E_w_FnExactSameString : Tabs := (mkE tab [(18, m_w_szString), (20, m_w_toString), (19, m_s_SameString), (21, m_i_SameString), (22, m_w_eqString)] [])
set_option maxRecDepth 4000 in
theorem ek_w_FnExactSameString : EnvOK Try.prog E_w_FnExactSameString := (mkE_ok tab_ok mixed (AllF.cons ok_w_szString (AllF.cons ok_w_toString (AllF.cons ok_s_SameString (AllF.cons ok_i_SameString (AllF.cons ok_w_eqString AllF.nil))))) AllX.nil)
theorem ev_w_FnExactSameString (aA : dString) (aB : dString) : evalF E_w_FnExactSameString noL Try.f4 [.ro true tString, .ro true tString] (.one false .bool) (aA, aB, ()) = g_w_FnExactSameString aA aB := by kernel_rfl
def m_w_FnExactSameString : FM := { ps := [.ro true tString, .ro true tString], res := .one false .bool, run := fun x => g_w_FnExactSameString x.1 x.2.1 }
set_option maxRecDepth 4000 in
theorem ok_w_FnExactSameString : FmOK Try.prog 4 m_w_FnExactSameString := @FmOK.made Try.prog E_w_FnExactSameString ek_w_FnExactSameString 4 Try.f4 noL m_w_FnExactSameString Try.func4 (by kernel_rfl) (Loops.none (by kernel_rfl)) fun ds out _ hr => by obtain ⟨aA, aB, ⟨⟩⟩ := ds; exact (ev_w_FnExactSameString aA aB).trans hr

def E_w_szBoneS : Tabs := (mkE tab [] [])
set_option maxRecDepth 4000 in
theorem ek_w_szBoneS : EnvOK Try.prog E_w_szBoneS := (mkE_ok tab_ok mixed AllF.nil AllX.nil)
theorem ev_w_szBoneS (a : (List dRootKey)) (left : Int) : evalF E_w_szBoneS noL Try.f91 [.ro false (.slice tRootKey), .ro false (.int .i64)] (.one false (.int .i64)) (a, left, ()) = g_w_szBoneS a left := by kernel_rfl
def m_w_szBoneS : FM := { ps := [.ro false (.slice tRootKey), .ro false (.int .i64)], res := .one false (.int .i64), run := fun x => some (t_w_szBoneS x.1 x.2.1) }
set_option maxRecDepth 4000 in
theorem ok_w_szBoneS : FmOK Try.prog 91 m_w_szBoneS := @FmOK.made Try.prog E_w_szBoneS ek_w_szBoneS 91 Try.f91 noL m_w_szBoneS Try.func91 (by kernel_rfl) (Loops.none (by kernel_rfl)) fun ds out _ hr => by obtain ⟨a, left, ⟨⟩⟩ := ds; exact (ev_w_szBoneS a left).trans ((q_w_szBoneS a left).trans hr)

def E_w_szSkeleton : Tabs := (mkE tab [(91, m_w_szBoneS)] [])
set_option maxRecDepth 4000 in
theorem ek_w_szSkeleton : EnvOK Try.prog E_w_szSkeleton := (mkE_ok tab_ok mixed (AllF.cons ok_w_szBoneS AllF.nil) AllX.nil)
theorem ev_w_szSkeleton (a : dSkel) (left : Int) : evalF E_w_szSkeleton noL Try.f23 [.ro true tSkel, .ro false (.int .i64)] (.one false (.int .i64)) (a, left, ()) = g_w_szSkeleton a left := by kernel_rfl
def m_w_szSkeleton : FM := { ps := [.ro true tSkel, .ro false (.int .i64)], res := .one false (.int .i64), run := fun x => some (t_w_szSkeleton x.1 x.2.1) }
set_option maxRecDepth 4000 in
theorem ok_w_szSkeleton : FmOK Try.prog 23 m_w_szSkeleton := @FmOK.made Try.prog E_w_szSkeleton ek_w_szSkeleton 23 Try.f23 noL m_w_szSkeleton Try.func23 (by kernel_rfl) (Loops.none (by kernel_rfl)) fun ds out _ hr => by obtain ⟨a, left, ⟨⟩⟩ := ds; exact (ev_w_szSkeleton a left).trans ((q_w_szSkeleton a left).trans hr)

def E_w_szInt64S : Tabs := (mkE tab [] [])
set_option maxRecDepth 4000 in
theorem ek_w_szInt64S : EnvOK Try.prog E_w_szInt64S := (mkE_ok tab_ok mixed AllF.nil AllX.nil)
theorem ev_w_szInt64S (a : (List Int)) (left : Int) : evalF E_w_szInt64S noL Try.f155 [.ro false (.slice (.int .i64)), .ro false (.int .i64)] (.one false (.int .i64)) (a, left, ()) = g_w_szInt64S a left := by kernel_rfl
def m_w_szInt64S : FM := { ps := [.ro false (.slice (.int .i64)), .ro false (.int .i64)], res := .one false (.int .i64), run := fun x => some (t_w_szInt64S x.1 x.2.1) }
set_option maxRecDepth 4000 in
theorem ok_w_szInt64S : FmOK Try.prog 155 m_w_szInt64S := @FmOK.made Try.prog E_w_szInt64S ek_w_szInt64S 155 Try.f155 noL m_w_szInt64S Try.func155 (by kernel_rfl) (Loops.none (by kernel_rfl)) fun ds out _ hr => by obtain ⟨a, left, ⟨⟩⟩ := ds; exact (ev_w_szInt64S a left).trans ((q_w_szInt64S a left).trans hr)

def E_w_szSkinPoint : Tabs := (mkE tab [(155, m_w_szInt64S), (73, m_w_szFloat32S)] [])
set_option maxRecDepth 4000 in
theorem ek_w_szSkinPoint : EnvOK Try.prog E_w_szSkinPoint := (mkE_ok tab_ok mixed (AllF.cons ok_w_szInt64S (AllF.cons ok_w_szFloat32S AllF.nil)) AllX.nil)
theorem ev_w_szSkinPoint (a : dSkinPoint) (left : Int) : evalF E_w_szSkinPoint noL Try.f92 [.ro true tSkinPoint, .ro false (.int .i64)] (.one false (.int .i64)) (a, left, ()) = g_w_szSkinPoint a left := by kernel_rfl
def m_w_szSkinPoint : FM := { ps := [.ro true tSkinPoint, .ro false (.int .i64)], res := .one false (.int .i64), run := fun x => some (t_w_szSkinPoint x.1 x.2.1) }
set_option maxRecDepth 4000 in
theorem ok_w_szSkinPoint : FmOK Try.prog 92 m_w_szSkinPoint := @FmOK.made Try.prog E_w_szSkinPoint ek_w_szSkinPoint 92 Try.f92 noL m_w_szSkinPoint Try.func92 (by kernel_rfl) (Loops.none (by kernel_rfl)) fun ds out _ hr => by obtain ⟨a, left, ⟨⟩⟩ := ds; exact (ev_w_szSkinPoint a left).trans ((q_w_szSkinPoint a left).trans hr)

def E_w_szSkinPointS : Tabs := (mkE tab [(92, m_w_szSkinPoint)] [])
set_option maxRecDepth 4000 in
theorem ek_w_szSkinPointS : EnvOK Try.prog E_w_szSkinPointS := (mkE_ok tab_ok mixed (AllF.cons ok_w_szSkinPoint AllF.nil) AllX.nil)
def lm_L_w_szSkinPointS_1 : LM := { mat := [], head := { slots := [(0, .dat false (.slice tSkinPoint)), (1, .dat false (.int .i64)), (4, .dat false (.int .i64)), (5, .dat false (.int .i64))], blks := [] }, out := { slots := [(1, .dat false (.int .i64)), (4, .dat false (.int .i64))], blks := [] }, ex := 0, rets := true, run := iter L_w_szSkinPointS_1 fuel }
def ll_w_szSkinPointS : List (Nat × LP) := [(5, .lm lm_L_w_szSkinPointS_1)]
theorem rd_L_w_szSkinPointS_1 (rec' : ((List dSkinPoint) × Int × Int × Int × Unit) × (Unit) → Option (Bool × ((Int × Int × Unit) × (Unit)))) (a : (List dSkinPoint)) (left : Int) (t4 : Int) (i : Int) : round E_w_szSkinPointS (lookL ll_w_szSkinPointS) lm_L_w_szSkinPointS_1 27 (loopAt Try.f24 0) rec' ((a, left, t4, i, ()), (())) = L_w_szSkinPointS_1 rec' ((a, left, t4, i, ()), (())) := by kernel_rfl
theorem lo_w_szSkinPointS : Loops E_w_szSkinPointS (lookL ll_w_szSkinPointS) Try.f24 := Loops.list (by kernel_rfl) (by kernel_rfl) ⟨LoopOK.iter (step := L_w_szSkinPointS_1) (N := fun _ => fuel) (fun rec' x => by obtain ⟨⟨a, left, t4, i, ⟨⟩⟩, ⟨⟨⟩⟩⟩ := x; exact rd_L_w_szSkinPointS_1 rec' a left t4 i) fun _ => rfl, trivial⟩
theorem ev_w_szSkinPointS (a : (List dSkinPoint)) (left : Int) : evalF E_w_szSkinPointS (lookL ll_w_szSkinPointS) Try.f24 [.ro false (.slice tSkinPoint), .ro false (.int .i64)] (.one false (.int .i64)) (a, left, ()) = g_w_szSkinPointS a left := by kernel_rfl
def m_w_szSkinPointS : FM := { ps := [.ro false (.slice tSkinPoint), .ro false (.int .i64)], res := .one false (.int .i64), run := fun x => g_w_szSkinPointS x.1 x.2.1 }
set_option maxRecDepth 4000 in
theorem ok_w_szSkinPointS : FmOK Try.prog 24 m_w_szSkinPointS := @FmOK.made Try.prog E_w_szSkinPointS ek_w_szSkinPointS 24 Try.f24 (lookL ll_w_szSkinPointS) m_w_szSkinPointS Try.func24 (by kernel_rfl) lo_w_szSkinPointS fun ds out _ hr => by obtain ⟨a, left, ⟨⟩⟩ := ds; exact (ev_w_szSkinPointS a left).trans hr

def E_w_toBone : Tabs := (mkE tab [(81, m_w_toVector)] [])
set_option maxRecDepth 4000 in
theorem ek_w_toBone : EnvOK Try.prog E_w_toBone := (mkE_ok tab_ok mixed (AllF.cons ok_w_toVector AllF.nil) AllX.nil)
theorem ev_w_toBone (a : dRootKey) : evalF E_w_toBone noL Try.f157 [.ro true tRootKey] (.one true tRootKey) (a, ()) = g_w_toBone a := by kernel_rfl
def m_w_toBone : FM := { ps := [.ro true tRootKey], res := .one true tRootKey, run := fun x => some (t_w_toBone x.1) }
set_option maxRecDepth 4000 in
theorem ok_w_toBone : FmOK Try.prog 157 m_w_toBone := @FmOK.made Try.prog E_w_toBone ek_w_toBone 157 Try.f157 noL m_w_toBone Try.func157 (by kernel_rfl) (Loops.none (by kernel_rfl)) fun ds out _ hr => by obtain ⟨a, ⟨⟩⟩ := ds; exact (ev_w_toBone a).trans ((q_w_toBone a).trans hr)

def E_w_toBoneS : Tabs := (mkE tab [(157, m_w_toBone)] [])
set_option maxRecDepth 4000 in
theorem ek_w_toBoneS : EnvOK Try.prog E_w_toBoneS := (mkE_ok tab_ok mixed (AllF.cons ok_w_toBone AllF.nil) AllX.nil)
def lm_L_w_toBoneS_1 : LM := { mat := [], head := { slots := [(0, .dat false (.slice tRootKey)), (3, .cst (.sl (.row 0))), (4, .dat false (.int .i64))], blks := [.row false tRootKey] }, out := { slots := [(3, .cst (.sl (.row 0)))], blks := [.row false tRootKey] }, ex := 0, rets := false, run := iter L_w_toBoneS_1 fuel }
def ll_w_toBoneS : List (Nat × LP) := [(3, .lm lm_L_w_toBoneS_1)]
theorem rd_L_w_toBoneS_1 (rec' : ((List dRootKey) × Int × Unit) × ((List dRootKey) × Unit) → Option ((Unit) × ((List dRootKey) × Unit))) (a : (List dRootKey)) (i : Int) (r0 : (List dRootKey)) : round E_w_toBoneS (lookL ll_w_toBoneS) lm_L_w_toBoneS_1 23 (loopAt Try.f95 0) rec' ((a, i, ()), (r0, ())) = L_w_toBoneS_1 rec' ((a, i, ()), (r0, ())) := by kernel_rfl
theorem lo_w_toBoneS : Loops E_w_toBoneS (lookL ll_w_toBoneS) Try.f95 := Loops.list (by kernel_rfl) (by kernel_rfl) ⟨LoopOK.iter (step := L_w_toBoneS_1) (N := fun _ => fuel) (fun rec' x => by obtain ⟨⟨a, i, ⟨⟩⟩, ⟨r0, ⟨⟩⟩⟩ := x; exact rd_L_w_toBoneS_1 rec' a i r0) fun _ => rfl, trivial⟩
theorem ev_w_toBoneS (a : (List dRootKey)) : evalF E_w_toBoneS (lookL ll_w_toBoneS) Try.f95 [.ro false (.slice tRootKey)] (.one false (.slice tRootKey)) (a, ()) = g_w_toBoneS a := by kernel_rfl
def m_w_toBoneS : FM := { ps := [.ro false (.slice tRootKey)], res := .one false (.slice tRootKey), run := fun x => g_w_toBoneS x.1 }
set_option maxRecDepth 4000 in
theorem ok_w_toBoneS : FmOK Try.prog 95 m_w_toBoneS := @FmOK.made Try.prog E_w_toBoneS ek_w_toBoneS 95 Try.f95 (lookL ll_w_toBoneS) m_w_toBoneS Try.func95 (by kernel_rfl) lo_w_toBoneS fun ds out _ hr => by obtain ⟨a, ⟨⟩⟩ := ds; exact (ev_w_toBoneS a).trans hr

def E_w_toSkeleton : Tabs := (mkE tab [(95, m_w_toBoneS)] [])
set_option maxRecDepth 4000 in
theorem ek_w_toSkeleton : EnvOK Try.prog E_w_toSkeleton := (mkE_ok tab_ok mixed (AllF.cons ok_w_toBoneS AllF.nil) AllX.nil)
theorem ev_w_toSkeleton (a : dSkel) : evalF E_w_toSkeleton noL Try.f26 [.ro true tSkel] (.one true tSkel) (a, ()) = g_w_toSkeleton a := by kernel_rfl
def m_w_toSkeleton : FM := { ps := [.ro true tSkel], res := .one true tSkel, run := fun x => g_w_toSkeleton x.1 }
set_option maxRecDepth 4000 in
theorem ok_w_toSkeleton : FmOK Try.prog 26 m_w_toSkeleton := @FmOK.made Try.prog E_w_toSkeleton ek_w_toSkeleton 26 Try.f26 noL m_w_toSkeleton Try.func26 (by kernel_rfl) (Loops.none (by kernel_rfl)) fun ds out _ hr => by obtain ⟨a, ⟨⟩⟩ := ds; exact (ev_w_toSkeleton a).trans hr

def E_w_toInt64S : Tabs := (mkE tab [] [])
set_option maxRecDepth 4000 in
theorem ek_w_toInt64S : EnvOK Try.prog E_w_toInt64S := (mkE_ok tab_ok mixed AllF.nil AllX.nil)
def lm_L_w_toInt64S_1 : LM := { mat := [], head := { slots := [(0, .dat false (.slice (.int .i64))), (3, .cst (.sl (.row 0))), (4, .dat false (.int .i64))], blks := [.row false (.int .i64)] }, out := { slots := [(3, .cst (.sl (.row 0)))], blks := [.row false (.int .i64)] }, ex := 0, rets := false, run := iter L_w_toInt64S_1 fuel }
def ll_w_toInt64S : List (Nat × LP) := [(3, .lm lm_L_w_toInt64S_1)]
theorem rd_L_w_toInt64S_1 (rec' : ((List Int) × Int × Unit) × ((List Int) × Unit) → Option ((Unit) × ((List Int) × Unit))) (a : (List Int)) (i : Int) (r0 : (List Int)) : round E_w_toInt64S (lookL ll_w_toInt64S) lm_L_w_toInt64S_1 22 (loopAt Try.f158 0) rec' ((a, i, ()), (r0, ())) = L_w_toInt64S_1 rec' ((a, i, ()), (r0, ())) := by kernel_rfl
theorem lo_w_toInt64S : Loops E_w_toInt64S (lookL ll_w_toInt64S) Try.f158 := Loops.list (by kernel_rfl) (by kernel_rfl) ⟨LoopOK.iter (step := L_w_toInt64S_1) (N := fun _ => fuel) (fun rec' x => by obtain ⟨⟨a, i, ⟨⟩⟩, ⟨r0, ⟨⟩⟩⟩ := x; exact rd_L_w_toInt64S_1 rec' a i r0) fun _ => rfl, trivial⟩
theorem ev_w_toInt64S (a : (List Int)) : evalF E_w_toInt64S (lookL ll_w_toInt64S) Try.f158 [.ro false (.slice (.int .i64))] (.one false (.slice (.int .i64))) (a, ()) = g_w_toInt64S a := by kernel_rfl
def m_w_toInt64S : FM := { ps := [.ro false (.slice (.int .i64))], res := .one false (.slice (.int .i64)), run := fun x => g_w_toInt64S x.1 }
set_option maxRecDepth 4000 in
theorem ok_w_toInt64S : FmOK Try.prog 158 m_w_toInt64S := @FmOK.made Try.prog E_w_toInt64S ek_w_toInt64S 158 Try.f158 (lookL ll_w_toInt64S) m_w_toInt64S Try.func158 (by kernel_rfl) lo_w_toInt64S fun ds out _ hr => by obtain ⟨a, ⟨⟩⟩ := ds; exact (ev_w_toInt64S a).trans hr

def E_w_toSkinPoint : Tabs := (mkE tab [(81, m_w_toVector), (158, m_w_toInt64S), (80, m_w_toFloat32S)] [])
set_option maxRecDepth 4000 in
theorem ek_w_toSkinPoint : EnvOK Try.prog E_w_toSkinPoint := (mkE_ok tab_ok mixed (AllF.cons ok_w_toVector (AllF.cons ok_w_toInt64S (AllF.cons ok_w_toFloat32S AllF.nil))) AllX.nil)
theorem ev_w_toSkinPoint (a : dSkinPoint) : evalF E_w_toSkinPoint noL Try.f96 [.ro true tSkinPoint] (.one true tSkinPoint) (a, ()) = g_w_toSkinPoint a := by kernel_rfl
def m_w_toSkinPoint : FM := { ps := [.ro true tSkinPoint], res := .one true tSkinPoint, run := fun x => g_w_toSkinPoint x.1 }
set_option maxRecDepth 4000 in
theorem ok_w_toSkinPoint : FmOK Try.prog 96 m_w_toSkinPoint := @FmOK.made Try.prog E_w_toSkinPoint ek_w_toSkinPoint 96 Try.f96 noL m_w_toSkinPoint Try.func96 (by kernel_rfl) (Loops.none (by kernel_rfl)) fun ds out _ hr => by obtain ⟨a, ⟨⟩⟩ := ds; exact (ev_w_toSkinPoint a).trans hr

def E_w_toSkinPointS : Tabs := (mkE tab [(96, m_w_toSkinPoint)] [])
set_option maxRecDepth 4000 in
theorem ek_w_toSkinPointS : EnvOK Try.prog E_w_toSkinPointS := (mkE_ok tab_ok mixed (AllF.cons ok_w_toSkinPoint AllF.nil) AllX.nil)
def lm_L_w_toSkinPointS_1 : LM := { mat := [], head := { slots := [(0, .dat false (.slice tSkinPoint)), (3, .cst (.sl (.row 0))), (4, .dat false (.int .i64))], blks := [.row false tSkinPoint] }, out := { slots := [(3, .cst (.sl (.row 0)))], blks := [.row false tSkinPoint] }, ex := 0, rets := false, run := iter L_w_toSkinPointS_1 fuel }
def ll_w_toSkinPointS : List (Nat × LP) := [(3, .lm lm_L_w_toSkinPointS_1)]
theorem rd_L_w_toSkinPointS_1 (rec' : ((List dSkinPoint) × Int × Unit) × ((List dSkinPoint) × Unit) → Option ((Unit) × ((List dSkinPoint) × Unit))) (a : (List dSkinPoint)) (i : Int) (r0 : (List dSkinPoint)) : round E_w_toSkinPointS (lookL ll_w_toSkinPointS) lm_L_w_toSkinPointS_1 23 (loopAt Try.f27 0) rec' ((a, i, ()), (r0, ())) = L_w_toSkinPointS_1 rec' ((a, i, ()), (r0, ())) := by kernel_rfl
theorem lo_w_toSkinPointS : Loops E_w_toSkinPointS (lookL ll_w_toSkinPointS) Try.f27 := Loops.list (by kernel_rfl) (by kernel_rfl) ⟨LoopOK.iter (step := L_w_toSkinPointS_1) (N := fun _ => fuel) (fun rec' x => by obtain ⟨⟨a, i, ⟨⟩⟩, ⟨r0, ⟨⟩⟩⟩ := x; exact rd_L_w_toSkinPointS_1 rec' a i r0) fun _ => rfl, trivial⟩
theorem ev_w_toSkinPointS (a : (List dSkinPoint)) : evalF E_w_toSkinPointS (lookL ll_w_toSkinPointS) Try.f27 [.ro false (.slice tSkinPoint)] (.one false (.slice tSkinPoint)) (a, ()) = g_w_toSkinPointS a := by kernel_rfl
def m_w_toSkinPointS : FM := { ps := [.ro false (.slice tSkinPoint)], res := .one false (.slice tSkinPoint), run := fun x => g_w_toSkinPointS x.1 }
set_option maxRecDepth 4000 in
theorem ok_w_toSkinPointS : FmOK Try.prog 27 m_w_toSkinPointS := @FmOK.made Try.prog E_w_toSkinPointS ek_w_toSkinPointS 27 Try.f27 (lookL ll_w_toSkinPointS) m_w_toSkinPointS Try.func27 (by kernel_rfl) lo_w_toSkinPointS fun ds out _ hr => by obtain ⟨a, ⟨⟩⟩ := ds; exact (ev_w_toSkinPointS a).trans hr

def E_s_l03Is : Tabs := (mkE tab [(151, m_s_l00In)] [])
set_option maxRecDepth 4000 in
theorem ek_s_l03Is : EnvOK Try.prog E_s_l03Is := (mkE_ok tab_ok mixed (AllF.cons ok_s_l00In AllF.nil) AllX.nil)
def lm_L_s_l03Is_1 : LM := { mat := [], head := { slots := [(0, .dat false (.ref tSkel)), (2, .dat false .bool), (3, .dat false (.int .i64)), (4, .dat false (.int .i64))], blks := [] }, out := { slots := [(2, .dat false .bool)], blks := [] }, ex := 0, rets := true, run := iter L_s_l03Is_1 fuel }
def ll_s_l03Is : List (Nat × LP) := [(5, .lm lm_L_s_l03Is_1)]
theorem rd_L_s_l03Is_1 (rec' : (dSkel × Bool × Int × Int × Unit) × (Unit) → Option (Bool × ((Bool × Unit) × (Unit)))) (k : dSkel) (t2 : Bool) (n : Int) (i : Int) : round E_s_l03Is (lookL ll_s_l03Is) lm_L_s_l03Is_1 40 (loopAt Try.f93 0) rec' ((k, t2, n, i, ()), (())) = L_s_l03Is_1 rec' ((k, t2, n, i, ()), (())) := by kernel_rfl
theorem lo_s_l03Is : Loops E_s_l03Is (lookL ll_s_l03Is) Try.f93 := Loops.list (by kernel_rfl) (by kernel_rfl) ⟨LoopOK.iter (step := L_s_l03Is_1) (N := fun _ => fuel) (fun rec' x => by obtain ⟨⟨k, t2, n, i, ⟨⟩⟩, ⟨⟨⟩⟩⟩ := x; exact rd_L_s_l03Is_1 rec' k t2 n i) fun _ => rfl, trivial⟩
theorem ev_s_l03Is (k : dSkel) : evalF E_s_l03Is (lookL ll_s_l03Is) Try.f93 [.rptr tSkel] (.one false .bool) (k, ()) = g_s_l03Is k := by kernel_rfl
def m_s_l03Is : FM := { ps := [.rptr tSkel], res := .one false .bool, run := fun x => g_s_l03Is x.1 }
set_option maxRecDepth 4000 in
theorem ok_s_l03Is : FmOK Try.prog 93 m_s_l03Is := @FmOK.made Try.prog E_s_l03Is ek_s_l03Is 93 Try.f93 (lookL ll_s_l03Is) m_s_l03Is Try.func93 (by kernel_rfl) lo_s_l03Is fun ds out _ hr => by obtain ⟨k, ⟨⟩⟩ := ds; exact (ev_s_l03Is k).trans hr

def E_s_l09Point : Tabs := (mkE tab [] [])
set_option maxRecDepth 4000 in
theorem ek_s_l09Point : EnvOK Try.prog E_s_l09Point := (mkE_ok tab_ok mixed AllF.nil AllX.nil)
theorem ev_s_l09Point (xx : dSkinPoint) : evalF E_s_l09Point noL Try.f101 [.rptr tSkinPoint] (.one false .bool) (xx, ()) = g_s_l09Point xx := by kernel_rfl
def m_s_l09Point : FM := { ps := [.rptr tSkinPoint], res := .one false .bool, run := fun x => some (t_s_l09Point x.1) }
set_option maxRecDepth 4000 in
theorem ok_s_l09Point : FmOK Try.prog 101 m_s_l09Point := @FmOK.made Try.prog E_s_l09Point ek_s_l09Point 101 Try.f101 noL m_s_l09Point Try.func101 (by kernel_rfl) (Loops.none (by kernel_rfl)) fun ds out _ hr => by obtain ⟨xx, ⟨⟩⟩ := ds; exact (ev_s_l09Point xx).trans ((q_s_l09Point xx).trans hr)

def E_s_l00Rises : Tabs := (mkE tab [(151, m_s_l00In)] [])
set_option maxRecDepth 4000 in
theorem ek_s_l00Rises : EnvOK Try.prog E_s_l00Rises := (mkE_ok tab_ok mixed (AllF.cons ok_s_l00In AllF.nil) AllX.nil)
def lm_L_s_l00Rises_1 : LM := { mat := [], head := { slots := [(0, .dat false (.slice (.int .i64))), (1, .dat false (.int .i64)), (2, .dat false (.int .i64)), (6, .dat false .bool), (7, .dat false (.int .i64))], blks := [] }, out := { slots := [(6, .dat false .bool)], blks := [] }, ex := 0, rets := true, run := iter L_s_l00Rises_1 fuel }
def ll_s_l00Rises : List (Nat × LP) := [(2, .lm lm_L_s_l00Rises_1)]
theorem rd_L_s_l00Rises_1 (rec' : ((List Int) × Int × Int × Bool × Int × Unit) × (Unit) → Option (Bool × ((Bool × Unit) × (Unit)))) (list : (List Int)) (low : Int) (high : Int) (t6 : Bool) (i : Int) : round E_s_l00Rises (lookL ll_s_l00Rises) lm_L_s_l00Rises_1 38 (loopAt Try.f156 0) rec' ((list, low, high, t6, i, ()), (())) = L_s_l00Rises_1 rec' ((list, low, high, t6, i, ()), (())) := by kernel_rfl
theorem lo_s_l00Rises : Loops E_s_l00Rises (lookL ll_s_l00Rises) Try.f156 := Loops.list (by kernel_rfl) (by kernel_rfl) ⟨LoopOK.iter (step := L_s_l00Rises_1) (N := fun _ => fuel) (fun rec' x => by obtain ⟨⟨list, low, high, t6, i, ⟨⟩⟩, ⟨⟨⟩⟩⟩ := x; exact rd_L_s_l00Rises_1 rec' list low high t6 i) fun _ => rfl, trivial⟩
theorem ev_s_l00Rises (list : (List Int)) (low : Int) (high : Int) : evalF E_s_l00Rises (lookL ll_s_l00Rises) Try.f156 [.ro false (.slice (.int .i64)), .ro false (.int .i64), .ro false (.int .i64)] (.one false .bool) (list, low, high, ()) = g_s_l00Rises list low high := by kernel_rfl
def m_s_l00Rises : FM := { ps := [.ro false (.slice (.int .i64)), .ro false (.int .i64), .ro false (.int .i64)], res := .one false .bool, run := fun x => g_s_l00Rises x.1 x.2.1 x.2.2.1 }
set_option maxRecDepth 4000 in
theorem ok_s_l00Rises : FmOK Try.prog 156 m_s_l00Rises := @FmOK.made Try.prog E_s_l00Rises ek_s_l00Rises 156 Try.f156 (lookL ll_s_l00Rises) m_s_l00Rises Try.func156 (by kernel_rfl) lo_s_l00Rises fun ds out _ hr => by obtain ⟨list, low, high, ⟨⟩⟩ := ds; exact (ev_s_l00Rises list low high).trans hr

def E_s_l09Skin : Tabs := (mkE tab [(101, m_s_l09Point), (156, m_s_l00Rises)] [])
set_option maxRecDepth 4000 in
theorem ek_s_l09Skin : EnvOK Try.prog E_s_l09Skin := (mkE_ok tab_ok mixed (AllF.cons ok_s_l09Point (AllF.cons ok_s_l00Rises AllF.nil)) AllX.nil)
def lm_L_s_l09Skin_1 : LM := { mat := [], head := { slots := [(0, .dat false (.ref tSkel)), (1, .dat false (.slice tSkinPoint)), (4, .dat false .bool), (7, .dat false (.int .i64)), (8, .dat false (.int .i64))], blks := [] }, out := { slots := [(1, .dat false (.slice tSkinPoint)), (4, .dat false .bool)], blks := [] }, ex := 0, rets := true, run := iter L_s_l09Skin_1 fuel }
def ll_s_l09Skin : List (Nat × LP) := [(2, .lm lm_L_s_l09Skin_1)]
theorem rd_L_s_l09Skin_1 (rec' : (dSkel × (List dSkinPoint) × Bool × Int × Int × Unit) × (Unit) → Option (Bool × (((List dSkinPoint) × Bool × Unit) × (Unit)))) (k : dSkel) (points : (List dSkinPoint)) (t4 : Bool) (t7 : Int) (t8 : Int) : round E_s_l09Skin (lookL ll_s_l09Skin) lm_L_s_l09Skin_1 35 (loopAt Try.f94 0) rec' ((k, points, t4, t7, t8, ()), (())) = L_s_l09Skin_1 rec' ((k, points, t4, t7, t8, ()), (())) := by kernel_rfl
theorem lo_s_l09Skin : Loops E_s_l09Skin (lookL ll_s_l09Skin) Try.f94 := Loops.list (by kernel_rfl) (by kernel_rfl) ⟨LoopOK.iter (step := L_s_l09Skin_1) (N := fun _ => fuel) (fun rec' x => by obtain ⟨⟨k, points, t4, t7, t8, ⟨⟩⟩, ⟨⟨⟩⟩⟩ := x; exact rd_L_s_l09Skin_1 rec' k points t4 t7 t8) fun _ => rfl, trivial⟩
theorem ev_s_l09Skin (k : dSkel) (points : (List dSkinPoint)) : evalF E_s_l09Skin (lookL ll_s_l09Skin) Try.f94 [.rptr tSkel, .ro false (.slice tSkinPoint)] (.one false .bool) (k, points, ()) = g_s_l09Skin k points := by kernel_rfl
def m_s_l09Skin : FM := { ps := [.rptr tSkel, .ro false (.slice tSkinPoint)], res := .one false .bool, run := fun x => g_s_l09Skin x.1 x.2.1 }
set_option maxRecDepth 4000 in
theorem ok_s_l09Skin : FmOK Try.prog 94 m_s_l09Skin := @FmOK.made Try.prog E_s_l09Skin ek_s_l09Skin 94 Try.f94 (lookL ll_s_l09Skin) m_s_l09Skin Try.func94 (by kernel_rfl) lo_s_l09Skin fun ds out _ hr => by obtain ⟨k, points, ⟨⟩⟩ := ds; exact (ev_s_l09Skin k points).trans hr

def E_s_IsSkin : Tabs := (mkE tab [(93, m_s_l03Is), (94, m_s_l09Skin)] [])
set_option maxRecDepth 4000 in
theorem ek_s_IsSkin : EnvOK Try.prog E_s_IsSkin := (mkE_ok tab_ok mixed (AllF.cons ok_s_l03Is (AllF.cons ok_s_l09Skin AllF.nil)) AllX.nil)
theorem ev_s_IsSkin (k : dSkel) (points : (List dSkinPoint)) : evalF E_s_IsSkin noL Try.f25 [.ro true tSkel, .ro false (.slice tSkinPoint)] (.one false .bool) (k, points, ()) = g_s_IsSkin k points := by kernel_rfl
def m_s_IsSkin : FM := { ps := [.ro true tSkel, .ro false (.slice tSkinPoint)], res := .one false .bool, run := fun x => g_s_IsSkin x.1 x.2.1 }
set_option maxRecDepth 4000 in
theorem ok_s_IsSkin : FmOK Try.prog 25 m_s_IsSkin := @FmOK.made Try.prog E_s_IsSkin ek_s_IsSkin 25 Try.f25 noL m_s_IsSkin Try.func25 (by kernel_rfl) (Loops.none (by kernel_rfl)) fun ds out _ hr => by obtain ⟨k, points, ⟨⟩⟩ := ds; exact (ev_s_IsSkin k points).trans hr

def E_i_ValidSkeleton : Tabs := (mkE tab [] [])
set_option maxRecDepth 4000 in
theorem ek_i_ValidSkeleton : EnvOK Try.prog E_i_ValidSkeleton := (mkE_ok tab_ok mixed AllF.nil AllX.nil)
def lm_L_i_ValidSkeleton_1 : LM := { mat := [], head := { slots := [(2, .dat false .bool), (25, .dat false (.slice tRootKey)), (26, .dat false (.int .i64)), (27, .dat false (.int .i64))], blks := [.dead] }, out := { slots := [(2, .dat false .bool)], blks := [.dead] }, ex := 0, rets := true, run := iter L_i_ValidSkeleton_1 fuel }
def ll_i_ValidSkeleton : List (Nat × LP) := [(4, .lm lm_L_i_ValidSkeleton_1)]
theorem rd_L_i_ValidSkeleton_1 (rec' : (Bool × (List dRootKey) × Int × Int × Unit) × (Unit) → Option (Bool × ((Bool × Unit) × (Unit)))) (t2 : Bool) (t25 : (List dRootKey)) (t26 : Int) (t27 : Int) : round E_i_ValidSkeleton (lookL ll_i_ValidSkeleton) lm_L_i_ValidSkeleton_1 42 (loopAt Try.f97 0) rec' ((t2, t25, t26, t27, ()), (())) = L_i_ValidSkeleton_1 rec' ((t2, t25, t26, t27, ()), (())) := by kernel_rfl
theorem lo_i_ValidSkeleton : Loops E_i_ValidSkeleton (lookL ll_i_ValidSkeleton) Try.f97 := Loops.list (by kernel_rfl) (by kernel_rfl) ⟨LoopOK.iter (step := L_i_ValidSkeleton_1) (N := fun _ => fuel) (fun rec' x => by obtain ⟨⟨t2, t25, t26, t27, ⟨⟩⟩, ⟨⟨⟩⟩⟩ := x; exact rd_L_i_ValidSkeleton_1 rec' t2 t25 t26 t27) fun _ => rfl, trivial⟩
theorem ev_i_ValidSkeleton (k : dSkel) : evalF E_i_ValidSkeleton (lookL ll_i_ValidSkeleton) Try.f97 [.ro true tSkel] (.one false .bool) (k, ()) = g_i_ValidSkeleton k := by kernel_rfl
def m_i_ValidSkeleton : FM := { ps := [.ro true tSkel], res := .one false .bool, run := fun x => g_i_ValidSkeleton x.1 }
set_option maxRecDepth 4000 in
theorem ok_i_ValidSkeleton : FmOK Try.prog 97 m_i_ValidSkeleton := @FmOK.made Try.prog E_i_ValidSkeleton ek_i_ValidSkeleton 97 Try.f97 (lookL ll_i_ValidSkeleton) m_i_ValidSkeleton Try.func97 (by kernel_rfl) lo_i_ValidSkeleton fun ds out _ hr => by obtain ⟨k, ⟨⟩⟩ := ds; exact (ev_i_ValidSkeleton k).trans hr

def E_i_SkinPoint_isHeld : Tabs := (mkE tab [] [])
set_option maxRecDepth 4000 in
theorem ek_i_SkinPoint_isHeld : EnvOK Try.prog E_i_SkinPoint_isHeld := (mkE_ok tab_ok mixed AllF.nil AllX.nil)
theorem ev_i_SkinPoint_isHeld (p : dSkinPoint) : evalF E_i_SkinPoint_isHeld noL Try.f98 [.ro true tSkinPoint] (.one false .bool) (p, ()) = g_i_SkinPoint_isHeld p := by kernel_rfl
def m_i_SkinPoint_isHeld : FM := { ps := [.ro true tSkinPoint], res := .one false .bool, run := fun x => some (t_i_SkinPoint_isHeld x.1) }
set_option maxRecDepth 4000 in
theorem ok_i_SkinPoint_isHeld : FmOK Try.prog 98 m_i_SkinPoint_isHeld := @FmOK.made Try.prog E_i_SkinPoint_isHeld ek_i_SkinPoint_isHeld 98 Try.f98 noL m_i_SkinPoint_isHeld Try.func98 (by kernel_rfl) (Loops.none (by kernel_rfl)) fun ds out _ hr => by obtain ⟨p, ⟨⟩⟩ := ds; exact (ev_i_SkinPoint_isHeld p).trans ((q_i_SkinPoint_isHeld p).trans hr)

def E_i_IsSkin : Tabs := (mkE tab [(97, m_i_ValidSkeleton), (98, m_i_SkinPoint_isHeld)] [])
set_option maxRecDepth 4000 in
theorem ek_i_IsSkin : EnvOK Try.prog E_i_IsSkin := (mkE_ok tab_ok mixed (AllF.cons ok_i_ValidSkeleton (AllF.cons ok_i_SkinPoint_isHeld AllF.nil)) AllX.nil)
def lm_L_i_IsSkin_2 : LM := { mat := [], head := { slots := [(2, .cst (.ptr (.box 0 0))), (4, .dat false .bool), (7, .dat false (.int .i64)), (18, .dat false (.slice tSkinPoint)), (19, .dat false (.int .i64)), (20, .dat false (.int .i64)), (28, .dat false (.slice (.int .i64))), (29, .dat false (.int .i64)), (30, .dat false (.int .i64))], blks := [.box [.dat tSkel], .dead] }, out := { slots := [(2, .cst (.ptr (.box 0 0))), (4, .dat false .bool), (18, .dat false (.slice tSkinPoint)), (19, .dat false (.int .i64)), (20, .dat false (.int .i64))], blks := [.box [.dat tSkel], .dead] }, ex := 2, rets := true, run := iter L_i_IsSkin_2 fuel }
def lm_L_i_IsSkin_1 : LM := { mat := [], head := { slots := [(2, .cst (.ptr (.box 0 0))), (4, .dat false .bool), (18, .dat false (.slice tSkinPoint)), (19, .dat false (.int .i64)), (20, .dat false (.int .i64))], blks := [.box [.dat tSkel]] }, out := { slots := [(4, .dat false .bool)], blks := [.dead] }, ex := 0, rets := true, run := iter L_i_IsSkin_1 fuel }
def ll_i_IsSkin : List (Nat × LP) := [(4, .lm lm_L_i_IsSkin_1), (10, .lm lm_L_i_IsSkin_2)]
theorem rd_L_i_IsSkin_2 (rec' : (Bool × Int × (List dSkinPoint) × Int × Int × (List Int) × Int × Int × Unit) × ((dSkel × Unit) × Unit) → Option (Bool × ((Bool × (List dSkinPoint) × Int × Int × Unit) × ((dSkel × Unit) × Unit)))) (t4 : Bool) (last : Int) (t18 : (List dSkinPoint)) (t19 : Int) (t20 : Int) (t28 : (List Int)) (t29 : Int) (t30 : Int) (b0 : dSkel) : round E_i_IsSkin (lookL ll_i_IsSkin) lm_L_i_IsSkin_2 47 (loopAt Try.f28 1) rec' ((t4, last, t18, t19, t20, t28, t29, t30, ()), ((b0, ()), ())) = L_i_IsSkin_2 rec' ((t4, last, t18, t19, t20, t28, t29, t30, ()), ((b0, ()), ())) := by kernel_rfl
theorem rd_L_i_IsSkin_1 (rec' : (Bool × (List dSkinPoint) × Int × Int × Unit) × ((dSkel × Unit) × Unit) → Option (Bool × ((Bool × Unit) × (Unit)))) (t4 : Bool) (t18 : (List dSkinPoint)) (t19 : Int) (t20 : Int) (b0 : dSkel) : round E_i_IsSkin (lookL ll_i_IsSkin) lm_L_i_IsSkin_1 47 (loopAt Try.f28 0) rec' ((t4, t18, t19, t20, ()), ((b0, ()), ())) = L_i_IsSkin_1 rec' ((t4, t18, t19, t20, ()), ((b0, ()), ())) := by kernel_rfl
theorem lo_i_IsSkin : Loops E_i_IsSkin (lookL ll_i_IsSkin) Try.f28 := Loops.list (by kernel_rfl) (by kernel_rfl) ⟨LoopOK.iter (step := L_i_IsSkin_1) (N := fun _ => fuel) (fun rec' x => by obtain ⟨⟨t4, t18, t19, t20, ⟨⟩⟩, ⟨⟨b0, ⟨⟩⟩, ⟨⟩⟩⟩ := x; exact rd_L_i_IsSkin_1 rec' t4 t18 t19 t20 b0) fun _ => rfl, LoopOK.iter (step := L_i_IsSkin_2) (N := fun _ => fuel) (fun rec' x => by obtain ⟨⟨t4, last, t18, t19, t20, t28, t29, t30, ⟨⟩⟩, ⟨⟨b0, ⟨⟩⟩, ⟨⟩⟩⟩ := x; exact rd_L_i_IsSkin_2 rec' t4 last t18 t19 t20 t28 t29 t30 b0) fun _ => rfl, trivial⟩
theorem ev_i_IsSkin (k : dSkel) (points : (List dSkinPoint)) : evalF E_i_IsSkin (lookL ll_i_IsSkin) Try.f28 [.ro true tSkel, .ro false (.slice tSkinPoint)] (.one false .bool) (k, points, ()) = g_i_IsSkin k points := by kernel_rfl
def m_i_IsSkin : FM := { ps := [.ro true tSkel, .ro false (.slice tSkinPoint)], res := .one false .bool, run := fun x => g_i_IsSkin x.1 x.2.1 }
set_option maxRecDepth 4000 in
theorem ok_i_IsSkin : FmOK Try.prog 28 m_i_IsSkin := @FmOK.made Try.prog E_i_IsSkin ek_i_IsSkin 28 Try.f28 (lookL ll_i_IsSkin) m_i_IsSkin Try.func28 (by kernel_rfl) lo_i_IsSkin fun ds out _ hr => by obtain ⟨k, points, ⟨⟩⟩ := ds; exact (ev_i_IsSkin k points).trans hr

def E_w_eqBone : Tabs := (mkE tab [(90, m_w_eqVector)] [])
set_option maxRecDepth 4000 in
theorem ek_w_eqBone : EnvOK Try.prog E_w_eqBone := (mkE_ok tab_ok mixed (AllF.cons ok_w_eqVector AllF.nil) AllX.nil)
theorem ev_w_eqBone (a : dRootKey) (b : dRootKey) : evalF E_w_eqBone noL Try.f159 [.ro true tRootKey, .ro true tRootKey] (.one false .bool) (a, b, ()) = g_w_eqBone a b := by kernel_rfl
def m_w_eqBone : FM := { ps := [.ro true tRootKey, .ro true tRootKey], res := .one false .bool, run := fun x => some (t_w_eqBone x.1 x.2.1) }
set_option maxRecDepth 4000 in
theorem ok_w_eqBone : FmOK Try.prog 159 m_w_eqBone := @FmOK.made Try.prog E_w_eqBone ek_w_eqBone 159 Try.f159 noL m_w_eqBone Try.func159 (by kernel_rfl) (Loops.none (by kernel_rfl)) fun ds out _ hr => by obtain ⟨a, b, ⟨⟩⟩ := ds; exact (ev_w_eqBone a b).trans ((q_w_eqBone a b).trans hr)

def E_w_eqBoneS : Tabs := (mkE tab [(159, m_w_eqBone)] [])
set_option maxRecDepth 4000 in
theorem ek_w_eqBoneS : EnvOK Try.prog E_w_eqBoneS := (mkE_ok tab_ok mixed (AllF.cons ok_w_eqBone AllF.nil) AllX.nil)
def lm_L_w_eqBoneS_1 : LM := { mat := [], head := { slots := [(0, .dat false (.slice tRootKey)), (1, .dat false (.slice tRootKey)), (4, .dat false .bool), (5, .dat false (.int .i64))], blks := [] }, out := { slots := [(4, .dat false .bool)], blks := [] }, ex := 0, rets := true, run := iter L_w_eqBoneS_1 fuel }
def ll_w_eqBoneS : List (Nat × LP) := [(4, .lm lm_L_w_eqBoneS_1)]
theorem rd_L_w_eqBoneS_1 (rec' : ((List dRootKey) × (List dRootKey) × Bool × Int × Unit) × (Unit) → Option (Bool × ((Bool × Unit) × (Unit)))) (a : (List dRootKey)) (b : (List dRootKey)) (t4 : Bool) (i : Int) : round E_w_eqBoneS (lookL ll_w_eqBoneS) lm_L_w_eqBoneS_1 27 (loopAt Try.f99 0) rec' ((a, b, t4, i, ()), (())) = L_w_eqBoneS_1 rec' ((a, b, t4, i, ()), (())) := by kernel_rfl
theorem lo_w_eqBoneS : Loops E_w_eqBoneS (lookL ll_w_eqBoneS) Try.f99 := Loops.list (by kernel_rfl) (by kernel_rfl) ⟨LoopOK.iter (step := L_w_eqBoneS_1) (N := fun _ => fuel) (fun rec' x => by obtain ⟨⟨a, b, t4, i, ⟨⟩⟩, ⟨⟨⟩⟩⟩ := x; exact rd_L_w_eqBoneS_1 rec' a b t4 i) fun _ => rfl, trivial⟩
theorem ev_w_eqBoneS (a : (List dRootKey)) (b : (List dRootKey)) : evalF E_w_eqBoneS (lookL ll_w_eqBoneS) Try.f99 [.ro false (.slice tRootKey), .ro false (.slice tRootKey)] (.one false .bool) (a, b, ()) = g_w_eqBoneS a b := by kernel_rfl
def m_w_eqBoneS : FM := { ps := [.ro false (.slice tRootKey), .ro false (.slice tRootKey)], res := .one false .bool, run := fun x => g_w_eqBoneS x.1 x.2.1 }
set_option maxRecDepth 4000 in
theorem ok_w_eqBoneS : FmOK Try.prog 99 m_w_eqBoneS := @FmOK.made Try.prog E_w_eqBoneS ek_w_eqBoneS 99 Try.f99 (lookL ll_w_eqBoneS) m_w_eqBoneS Try.func99 (by kernel_rfl) lo_w_eqBoneS fun ds out _ hr => by obtain ⟨a, b, ⟨⟩⟩ := ds; exact (ev_w_eqBoneS a b).trans hr

def E_w_eqSkeleton : Tabs := (mkE tab [(99, m_w_eqBoneS)] [])
set_option maxRecDepth 4000 in
theorem ek_w_eqSkeleton : EnvOK Try.prog E_w_eqSkeleton := (mkE_ok tab_ok mixed (AllF.cons ok_w_eqBoneS AllF.nil) AllX.nil)
theorem ev_w_eqSkeleton (a : dSkel) (b : dSkel) : evalF E_w_eqSkeleton noL Try.f29 [.ro true tSkel, .ro true tSkel] (.one false .bool) (a, b, ()) = g_w_eqSkeleton a b := by kernel_rfl
def m_w_eqSkeleton : FM := { ps := [.ro true tSkel, .ro true tSkel], res := .one false .bool, run := fun x => g_w_eqSkeleton x.1 x.2.1 }
set_option maxRecDepth 4000 in
theorem ok_w_eqSkeleton : FmOK Try.prog 29 m_w_eqSkeleton := @FmOK.made Try.prog E_w_eqSkeleton ek_w_eqSkeleton 29 Try.f29 noL m_w_eqSkeleton Try.func29 (by kernel_rfl) (Loops.none (by kernel_rfl)) fun ds out _ hr => by obtain ⟨a, b, ⟨⟩⟩ := ds; exact (ev_w_eqSkeleton a b).trans hr

def E_w_eqInt64S : Tabs := (mkE tab [] [])
set_option maxRecDepth 4000 in
theorem ek_w_eqInt64S : EnvOK Try.prog E_w_eqInt64S := (mkE_ok tab_ok mixed AllF.nil AllX.nil)
def lm_L_w_eqInt64S_1 : LM := { mat := [], head := { slots := [(0, .dat false (.slice (.int .i64))), (1, .dat false (.slice (.int .i64))), (4, .dat false .bool), (5, .dat false (.int .i64))], blks := [] }, out := { slots := [(4, .dat false .bool)], blks := [] }, ex := 0, rets := true, run := iter L_w_eqInt64S_1 fuel }
def ll_w_eqInt64S : List (Nat × LP) := [(4, .lm lm_L_w_eqInt64S_1)]
theorem rd_L_w_eqInt64S_1 (rec' : ((List Int) × (List Int) × Bool × Int × Unit) × (Unit) → Option (Bool × ((Bool × Unit) × (Unit)))) (a : (List Int)) (b : (List Int)) (t4 : Bool) (i : Int) : round E_w_eqInt64S (lookL ll_w_eqInt64S) lm_L_w_eqInt64S_1 26 (loopAt Try.f61 0) rec' ((a, b, t4, i, ()), (())) = L_w_eqInt64S_1 rec' ((a, b, t4, i, ()), (())) := by kernel_rfl
theorem lo_w_eqInt64S : Loops E_w_eqInt64S (lookL ll_w_eqInt64S) Try.f61 := Loops.list (by kernel_rfl) (by kernel_rfl) ⟨LoopOK.iter (step := L_w_eqInt64S_1) (N := fun _ => fuel) (fun rec' x => by obtain ⟨⟨a, b, t4, i, ⟨⟩⟩, ⟨⟨⟩⟩⟩ := x; exact rd_L_w_eqInt64S_1 rec' a b t4 i) fun _ => rfl, trivial⟩
theorem ev_w_eqInt64S (a : (List Int)) (b : (List Int)) : evalF E_w_eqInt64S (lookL ll_w_eqInt64S) Try.f61 [.ro false (.slice (.int .i64)), .ro false (.slice (.int .i64))] (.one false .bool) (a, b, ()) = g_w_eqInt64S a b := by kernel_rfl
def m_w_eqInt64S : FM := { ps := [.ro false (.slice (.int .i64)), .ro false (.slice (.int .i64))], res := .one false .bool, run := fun x => g_w_eqInt64S x.1 x.2.1 }
set_option maxRecDepth 4000 in
theorem ok_w_eqInt64S : FmOK Try.prog 61 m_w_eqInt64S := @FmOK.made Try.prog E_w_eqInt64S ek_w_eqInt64S 61 Try.f61 (lookL ll_w_eqInt64S) m_w_eqInt64S Try.func61 (by kernel_rfl) lo_w_eqInt64S fun ds out _ hr => by obtain ⟨a, b, ⟨⟩⟩ := ds; exact (ev_w_eqInt64S a b).trans hr

def E_w_eqSkinPoint : Tabs := (mkE tab [(90, m_w_eqVector), (61, m_w_eqInt64S), (89, m_w_eqFloat32S)] [])
set_option maxRecDepth 4000 in
theorem ek_w_eqSkinPoint : EnvOK Try.prog E_w_eqSkinPoint := (mkE_ok tab_ok mixed (AllF.cons ok_w_eqVector (AllF.cons ok_w_eqInt64S (AllF.cons ok_w_eqFloat32S AllF.nil))) AllX.nil)
theorem ev_w_eqSkinPoint (a : dSkinPoint) (b : dSkinPoint) : evalF E_w_eqSkinPoint noL Try.f100 [.ro true tSkinPoint, .ro true tSkinPoint] (.one false .bool) (a, b, ()) = g_w_eqSkinPoint a b := by kernel_rfl
def m_w_eqSkinPoint : FM := { ps := [.ro true tSkinPoint, .ro true tSkinPoint], res := .one false .bool, run := fun x => g_w_eqSkinPoint x.1 x.2.1 }
set_option maxRecDepth 4000 in
theorem ok_w_eqSkinPoint : FmOK Try.prog 100 m_w_eqSkinPoint := @FmOK.made Try.prog E_w_eqSkinPoint ek_w_eqSkinPoint 100 Try.f100 noL m_w_eqSkinPoint Try.func100 (by kernel_rfl) (Loops.none (by kernel_rfl)) fun ds out _ hr => by obtain ⟨a, b, ⟨⟩⟩ := ds; exact (ev_w_eqSkinPoint a b).trans hr

def E_w_eqSkinPointS : Tabs := (mkE tab [(100, m_w_eqSkinPoint)] [])
set_option maxRecDepth 4000 in
theorem ek_w_eqSkinPointS : EnvOK Try.prog E_w_eqSkinPointS := (mkE_ok tab_ok mixed (AllF.cons ok_w_eqSkinPoint AllF.nil) AllX.nil)
def lm_L_w_eqSkinPointS_1 : LM := { mat := [], head := { slots := [(0, .dat false (.slice tSkinPoint)), (1, .dat false (.slice tSkinPoint)), (4, .dat false .bool), (5, .dat false (.int .i64))], blks := [] }, out := { slots := [(4, .dat false .bool)], blks := [] }, ex := 0, rets := true, run := iter L_w_eqSkinPointS_1 fuel }
def ll_w_eqSkinPointS : List (Nat × LP) := [(4, .lm lm_L_w_eqSkinPointS_1)]
theorem rd_L_w_eqSkinPointS_1 (rec' : ((List dSkinPoint) × (List dSkinPoint) × Bool × Int × Unit) × (Unit) → Option (Bool × ((Bool × Unit) × (Unit)))) (a : (List dSkinPoint)) (b : (List dSkinPoint)) (t4 : Bool) (i : Int) : round E_w_eqSkinPointS (lookL ll_w_eqSkinPointS) lm_L_w_eqSkinPointS_1 27 (loopAt Try.f30 0) rec' ((a, b, t4, i, ()), (())) = L_w_eqSkinPointS_1 rec' ((a, b, t4, i, ()), (())) := by kernel_rfl
theorem lo_w_eqSkinPointS : Loops E_w_eqSkinPointS (lookL ll_w_eqSkinPointS) Try.f30 := Loops.list (by kernel_rfl) (by kernel_rfl) ⟨LoopOK.iter (step := L_w_eqSkinPointS_1) (N := fun _ => fuel) (fun rec' x => by obtain ⟨⟨a, b, t4, i, ⟨⟩⟩, ⟨⟨⟩⟩⟩ := x; exact rd_L_w_eqSkinPointS_1 rec' a b t4 i) fun _ => rfl, trivial⟩
theorem ev_w_eqSkinPointS (a : (List dSkinPoint)) (b : (List dSkinPoint)) : evalF E_w_eqSkinPointS (lookL ll_w_eqSkinPointS) Try.f30 [.ro false (.slice tSkinPoint), .ro false (.slice tSkinPoint)] (.one false .bool) (a, b, ()) = g_w_eqSkinPointS a b := by kernel_rfl
def m_w_eqSkinPointS : FM := { ps := [.ro false (.slice tSkinPoint), .ro false (.slice tSkinPoint)], res := .one false .bool, run := fun x => g_w_eqSkinPointS x.1 x.2.1 }
set_option maxRecDepth 4000 in
theorem ok_w_eqSkinPointS : FmOK Try.prog 30 m_w_eqSkinPointS := @FmOK.made Try.prog E_w_eqSkinPointS ek_w_eqSkinPointS 30 Try.f30 (lookL ll_w_eqSkinPointS) m_w_eqSkinPointS Try.func30 (by kernel_rfl) lo_w_eqSkinPointS fun ds out _ hr => by obtain ⟨a, b, ⟨⟩⟩ := ds; exact (ev_w_eqSkinPointS a b).trans hr

def E_w_FnExactIsSkin : Tabs := (mkE tab [(23, m_w_szSkeleton), (24, m_w_szSkinPointS), (26, m_w_toSkeleton), (27, m_w_toSkinPointS), (25, m_s_IsSkin), (28, m_i_IsSkin), (29, m_w_eqSkeleton), (30, m_w_eqSkinPointS)] [])
set_option maxRecDepth 4000 in
theorem ek_w_FnExactIsSkin : EnvOK Try.prog E_w_FnExactIsSkin := (mkE_ok tab_ok mixed (AllF.cons ok_w_szSkeleton (AllF.cons ok_w_szSkinPointS (AllF.cons ok_w_toSkeleton (AllF.cons ok_w_toSkinPointS (AllF.cons ok_s_IsSkin (AllF.cons ok_i_IsSkin (AllF.cons ok_w_eqSkeleton (AllF.cons ok_w_eqSkinPointS AllF.nil)))))))) AllX.nil)
theorem ev_w_FnExactIsSkin (aK : dSkel) (aPoints : (List dSkinPoint)) : evalF E_w_FnExactIsSkin noL Try.f5 [.ro true tSkel, .ro false (.slice tSkinPoint)] (.one false .bool) (aK, aPoints, ()) = g_w_FnExactIsSkin aK aPoints := by kernel_rfl
def m_w_FnExactIsSkin : FM := { ps := [.ro true tSkel, .ro false (.slice tSkinPoint)], res := .one false .bool, run := fun x => g_w_FnExactIsSkin x.1 x.2.1 }
set_option maxRecDepth 4000 in
theorem ok_w_FnExactIsSkin : FmOK Try.prog 5 m_w_FnExactIsSkin := @FmOK.made Try.prog E_w_FnExactIsSkin ek_w_FnExactIsSkin 5 Try.f5 noL m_w_FnExactIsSkin Try.func5 (by kernel_rfl) (Loops.none (by kernel_rfl)) fun ds out _ hr => by obtain ⟨aK, aPoints, ⟨⟩⟩ := ds; exact (ev_w_FnExactIsSkin aK aPoints).trans hr

def E_s_l01Sum : Tabs := (mkE tab [] [])
set_option maxRecDepth 4000 in
theorem ek_s_l01Sum : EnvOK Try.prog E_s_l01Sum := (mkE_ok tab_ok mixed AllF.nil AllX.nil)
def lm_L_s_l01Sum_1 : LM := { mat := [], head := { slots := [(0, .dat false (.slice (.flt .f32))), (3, .dat false (.flt .f32)), (4, .dat false (.int .i64))], blks := [] }, out := { slots := [(3, .dat false (.flt .f32))], blks := [] }, ex := 0, rets := false, run := iter L_s_l01Sum_1 fuel }
def ll_s_l01Sum : List (Nat × LP) := [(3, .lm lm_L_s_l01Sum_1)]
theorem rd_L_s_l01Sum_1 (rec' : ((List Nat) × Nat × Int × Unit) × (Unit) → Option ((Nat × Unit) × (Unit))) (list : (List Nat)) (sum : Nat) (i : Int) : round E_s_l01Sum (lookL ll_s_l01Sum) lm_L_s_l01Sum_1 18 (loopAt Try.f102 0) rec' ((list, sum, i, ()), (())) = L_s_l01Sum_1 rec' ((list, sum, i, ()), (())) := by kernel_rfl
theorem lo_s_l01Sum : Loops E_s_l01Sum (lookL ll_s_l01Sum) Try.f102 := Loops.list (by kernel_rfl) (by kernel_rfl) ⟨LoopOK.iter (step := L_s_l01Sum_1) (N := fun _ => fuel) (fun rec' x => by obtain ⟨⟨list, sum, i, ⟨⟩⟩, ⟨⟨⟩⟩⟩ := x; exact rd_L_s_l01Sum_1 rec' list sum i) fun _ => rfl, trivial⟩
theorem ev_s_l01Sum (list : (List Nat)) : evalF E_s_l01Sum (lookL ll_s_l01Sum) Try.f102 [.ro false (.slice (.flt .f32))] (.one false (.flt .f32)) (list, ()) = g_s_l01Sum list := by kernel_rfl
def m_s_l01Sum : FM := { ps := [.ro false (.slice (.flt .f32))], res := .one false (.flt .f32), run := fun x => g_s_l01Sum x.1 }
set_option maxRecDepth 4000 in
theorem ok_s_l01Sum : FmOK Try.prog 102 m_s_l01Sum := @FmOK.made Try.prog E_s_l01Sum ek_s_l01Sum 102 Try.f102 (lookL ll_s_l01Sum) m_s_l01Sum Try.func102 (by kernel_rfl) lo_s_l01Sum fun ds out _ hr => by obtain ⟨list, ⟨⟩⟩ := ds; exact (ev_s_l01Sum list).trans hr

def E_s_l00Own : Tabs := (mkE tab [] [])
set_option maxRecDepth 4000 in
theorem ek_s_l00Own : EnvOK Try.prog E_s_l00Own := (mkE_ok tab_ok mixed AllF.nil AllX.nil)
theorem ev_s_l00Own (list : (List Int)) : evalF E_s_l00Own noL Try.f103 [.ro false (.slice (.int .i64))] (.one false (.slice (.int .i64))) (list, ()) = g_s_l00Own list := by kernel_rfl
def m_s_l00Own : FM := { ps := [.ro false (.slice (.int .i64))], res := .one false (.slice (.int .i64)), run := fun x => g_s_l00Own x.1 }
set_option maxRecDepth 4000 in
theorem ok_s_l00Own : FmOK Try.prog 103 m_s_l00Own := @FmOK.made Try.prog E_s_l00Own ek_s_l00Own 103 Try.f103 noL m_s_l00Own Try.func103 (by kernel_rfl) (Loops.none (by kernel_rfl)) fun ds out _ hr => by obtain ⟨list, ⟨⟩⟩ := ds; exact (ev_s_l00Own list).trans hr

def E_s_l01Finite : Tabs := (mkE tab [] [])
set_option maxRecDepth 4000 in
theorem ek_s_l01Finite : EnvOK Try.prog E_s_l01Finite := (mkE_ok tab_ok mixed AllF.nil AllX.nil)
theorem ev_s_l01Finite (xx : Nat) : evalF E_s_l01Finite noL Try.f104 [.ro false (.flt .f32)] (.one false .bool) (xx, ()) = g_s_l01Finite xx := by kernel_rfl
def m_s_l01Finite : FM := { ps := [.ro false (.flt .f32)], res := .one false .bool, run := fun x => some (t_s_l01Finite x.1) }
set_option maxRecDepth 4000 in
theorem ok_s_l01Finite : FmOK Try.prog 104 m_s_l01Finite := @FmOK.made Try.prog E_s_l01Finite ek_s_l01Finite 104 Try.f104 noL m_s_l01Finite Try.func104 (by kernel_rfl) (Loops.none (by kernel_rfl)) fun ds out _ hr => by obtain ⟨xx, ⟨⟩⟩ := ds; exact (ev_s_l01Finite xx).trans ((q_s_l01Finite xx).trans hr)

def E_s_EvenWeights : Tabs := (mkE tab [(101, m_s_l09Point), (102, m_s_l01Sum), (103, m_s_l00Own), (104, m_s_l01Finite)] [])
set_option maxRecDepth 4000 in
theorem ek_s_EvenWeights : EnvOK Try.prog E_s_EvenWeights := (mkE_ok tab_ok mixed (AllF.cons ok_s_l09Point (AllF.cons ok_s_l01Sum (AllF.cons ok_s_l00Own (AllF.cons ok_s_l01Finite AllF.nil)))) AllX.nil)
def lm_L_s_EvenWeights_2 : LM := { mat := [], head := { slots := [(0, .dat false (.slice tSkinPoint)), (2, .cst (.sl .nil)), (3, .dat false .bool), (4, .cst (.sl (.row 0))), (6, .cst (.ptr (.box 1 0))), (7, .dat false (.flt .f32)), (8, .cst (.ptr (.box 4 0))), (16, .dat false (.int .i64)), (17, .dat false (.int .i64)), (38, .dat false (.int .i64)), (39, .dat false (.int .i64))], blks := [.row false tSkinPoint, .box [.dat tSkinPoint], .row false (.int .i64), .row false (.flt .f32), .box [.dat tVec, .cst (.sl (.row 2)), .cst (.sl (.row 3))]] }, out := { slots := [(0, .dat false (.slice tSkinPoint)), (2, .cst (.sl .nil)), (3, .dat false .bool), (4, .cst (.sl (.row 0))), (8, .cst (.ptr (.box 4 0))), (16, .dat false (.int .i64)), (17, .dat false (.int .i64))], blks := [.row false tSkinPoint, .dead, .row false (.int .i64), .row false (.flt .f32), .box [.dat tVec, .cst (.sl (.row 2)), .cst (.sl (.row 3))]] }, ex := 2, rets := false, run := iter L_s_EvenWeights_2 fuel }
def lm_L_s_EvenWeights_1 : LM := { mat := [], head := { slots := [(0, .dat false (.slice tSkinPoint)), (2, .cst (.sl .nil)), (3, .dat false .bool), (4, .cst (.sl (.row 0))), (16, .dat false (.int .i64)), (17, .dat false (.int .i64))], blks := [.row false tSkinPoint] }, out := { slots := [(2, .cst (.sl .nil)), (3, .dat false .bool), (4, .cst (.sl (.row 0)))], blks := [.row false tSkinPoint] }, ex := 0, rets := true, run := iter L_s_EvenWeights_1 fuel }
def ll_s_EvenWeights : List (Nat × LP) := [(5, .lm lm_L_s_EvenWeights_1), (13, .lm lm_L_s_EvenWeights_2)]
theorem rd_L_s_EvenWeights_2 (rec' : ((List dSkinPoint) × Bool × Nat × Int × Int × Int × Int × Unit) × ((List dSkinPoint) × (dSkinPoint × Unit) × (List Int) × (List Nat) × (dVec × Unit) × Unit) → Option (((List dSkinPoint) × Bool × Int × Int × Unit) × ((List dSkinPoint) × (List Int) × (List Nat) × (dVec × Unit) × Unit))) (points : (List dSkinPoint)) (t3 : Bool) (sum : Nat) (t16 : Int) (t17 : Int) (t38 : Int) (t39 : Int) (r0 : (List dSkinPoint)) (b1 : dSkinPoint) (r2 : (List Int)) (r3 : (List Nat)) (b4 : dVec) : round E_s_EvenWeights (lookL ll_s_EvenWeights) lm_L_s_EvenWeights_2 71 (loopAt Try.f31 1) rec' ((points, t3, sum, t16, t17, t38, t39, ()), (r0, (b1, ()), r2, r3, (b4, ()), ())) = L_s_EvenWeights_2 rec' ((points, t3, sum, t16, t17, t38, t39, ()), (r0, (b1, ()), r2, r3, (b4, ()), ())) := by kernel_rfl
theorem rd_L_s_EvenWeights_1 (rec' : ((List dSkinPoint) × Bool × Int × Int × Unit) × ((List dSkinPoint) × Unit) → Option (Bool × ((Bool × Unit) × ((List dSkinPoint) × Unit)))) (points : (List dSkinPoint)) (t3 : Bool) (t16 : Int) (t17 : Int) (r0 : (List dSkinPoint)) : round E_s_EvenWeights (lookL ll_s_EvenWeights) lm_L_s_EvenWeights_1 71 (loopAt Try.f31 0) rec' ((points, t3, t16, t17, ()), (r0, ())) = L_s_EvenWeights_1 rec' ((points, t3, t16, t17, ()), (r0, ())) := by kernel_rfl
theorem lo_s_EvenWeights : Loops E_s_EvenWeights (lookL ll_s_EvenWeights) Try.f31 := Loops.list (by kernel_rfl) (by kernel_rfl) ⟨LoopOK.iter (step := L_s_EvenWeights_1) (N := fun _ => fuel) (fun rec' x => by obtain ⟨⟨points, t3, t16, t17, ⟨⟩⟩, ⟨r0, ⟨⟩⟩⟩ := x; exact rd_L_s_EvenWeights_1 rec' points t3 t16 t17 r0) fun _ => rfl, LoopOK.iter (step := L_s_EvenWeights_2) (N := fun _ => fuel) (fun rec' x => by obtain ⟨⟨points, t3, sum, t16, t17, t38, t39, ⟨⟩⟩, ⟨r0, ⟨b1, ⟨⟩⟩, r2, r3, ⟨b4, ⟨⟩⟩, ⟨⟩⟩⟩ := x; exact rd_L_s_EvenWeights_2 rec' points t3 sum t16 t17 t38 t39 r0 b1 r2 r3 b4) fun _ => rfl, trivial⟩
theorem ev_s_EvenWeights (points : (List dSkinPoint)) : evalF E_s_EvenWeights (lookL ll_s_EvenWeights) Try.f31 [.ro false (.slice tSkinPoint)] (.tup [(false, (.slice tSkinPoint)), (false, .bool)]) (points, ()) = g_s_EvenWeights points := by kernel_rfl
def m_s_EvenWeights : FM := { ps := [.ro false (.slice tSkinPoint)], res := .tup [(false, (.slice tSkinPoint)), (false, .bool)], run := fun x => g_s_EvenWeights x.1 }
set_option maxRecDepth 4000 in
theorem ok_s_EvenWeights : FmOK Try.prog 31 m_s_EvenWeights := @FmOK.made Try.prog E_s_EvenWeights ek_s_EvenWeights 31 Try.f31 (lookL ll_s_EvenWeights) m_s_EvenWeights Try.func31 (by kernel_rfl) lo_s_EvenWeights fun ds out _ hr => by obtain ⟨points, ⟨⟩⟩ := ds; exact (ev_s_EvenWeights points).trans hr

def E_i_EvenWeights_1 : Tabs := (mkE tab [(98, m_i_SkinPoint_isHeld)] [])
set_option maxRecDepth 4000 in
theorem ek_i_EvenWeights_1 : EnvOK Try.prog E_i_EvenWeights_1 := (mkE_ok tab_ok mixed (AllF.cons ok_i_SkinPoint_isHeld AllF.nil) AllX.nil)
theorem ev_i_EvenWeights_1 (p : dSkinPoint) : evalF E_i_EvenWeights_1 noL Try.f106 [.ro true tSkinPoint] (.one false .bool) (p, ()) = g_i_EvenWeights_1 p := by kernel_rfl
def m_i_EvenWeights_1 : FM := { ps := [.ro true tSkinPoint], res := .one false .bool, run := fun x => some (t_i_EvenWeights_1 x.1) }
set_option maxRecDepth 4000 in
theorem ok_i_EvenWeights_1 : FmOK Try.prog 106 m_i_EvenWeights_1 := @FmOK.made Try.prog E_i_EvenWeights_1 ek_i_EvenWeights_1 106 Try.f106 noL m_i_EvenWeights_1 Try.func106 (by kernel_rfl) (Loops.none (by kernel_rfl)) fun ds out _ hr => by obtain ⟨p, ⟨⟩⟩ := ds; exact (ev_i_EvenWeights_1 p).trans ((q_i_EvenWeights_1 p).trans hr)

def E_slices_IndexFunc_i_SkinPoint_i_SkinPoint : Tabs := (mkE tab [(106, m_i_EvenWeights_1)] [])
set_option maxRecDepth 4000 in
theorem ek_slices_IndexFunc_i_SkinPoint_i_SkinPoint : EnvOK Try.prog E_slices_IndexFunc_i_SkinPoint_i_SkinPoint := (mkE_ok tab_ok mixed (AllF.cons ok_i_EvenWeights_1 AllF.nil) AllX.nil)
def lm_L_slices_IndexFunc_i_SkinPoint_i_SkinPoint_1 : LM := { mat := [], head := { slots := [(0, .dat false (.slice tSkinPoint)), (1, .cst (.fn 106 [])), (4, .dat false (.int .i64)), (7, .dat false (.int .i64)), (8, .dat false (.int .i64))], blks := [] }, out := { slots := [(4, .dat false (.int .i64))], blks := [] }, ex := 0, rets := true, run := iter L_slices_IndexFunc_i_SkinPoint_i_SkinPoint_1 fuel }
def ll_slices_IndexFunc_i_SkinPoint_i_SkinPoint : List (Nat × LP) := [(2, .lm lm_L_slices_IndexFunc_i_SkinPoint_i_SkinPoint_1)]
theorem rd_L_slices_IndexFunc_i_SkinPoint_i_SkinPoint_1 (rec' : ((List dSkinPoint) × Int × Int × Int × Unit) × (Unit) → Option (Bool × ((Int × Unit) × (Unit)))) (s : (List dSkinPoint)) (t4 : Int) (t7 : Int) (t8 : Int) : round E_slices_IndexFunc_i_SkinPoint_i_SkinPoint (lookL ll_slices_IndexFunc_i_SkinPoint_i_SkinPoint) lm_L_slices_IndexFunc_i_SkinPoint_i_SkinPoint_1 19 (loopAt Try.f160 0) rec' ((s, t4, t7, t8, ()), (())) = L_slices_IndexFunc_i_SkinPoint_i_SkinPoint_1 rec' ((s, t4, t7, t8, ()), (())) := by kernel_rfl
theorem lo_slices_IndexFunc_i_SkinPoint_i_SkinPoint : Loops E_slices_IndexFunc_i_SkinPoint_i_SkinPoint (lookL ll_slices_IndexFunc_i_SkinPoint_i_SkinPoint) Try.f160 := Loops.list (by kernel_rfl) (by kernel_rfl) ⟨LoopOK.iter (step := L_slices_IndexFunc_i_SkinPoint_i_SkinPoint_1) (N := fun _ => fuel) (fun rec' x => by obtain ⟨⟨s, t4, t7, t8, ⟨⟩⟩, ⟨⟨⟩⟩⟩ := x; exact rd_L_slices_IndexFunc_i_SkinPoint_i_SkinPoint_1 rec' s t4 t7 t8) fun _ => rfl, trivial⟩
theorem ev_slices_IndexFunc_i_SkinPoint_i_SkinPoint (s : (List dSkinPoint)) (f : Unit) : evalF E_slices_IndexFunc_i_SkinPoint_i_SkinPoint (lookL ll_slices_IndexFunc_i_SkinPoint_i_SkinPoint) Try.f160 [.ro false (.slice tSkinPoint), .fnc 106 []] (.one false (.int .i64)) (s, f, ()) = g_slices_IndexFunc_i_SkinPoint_i_SkinPoint s f := by kernel_rfl
def m_slices_IndexFunc_i_SkinPoint_i_SkinPoint : FM := { ps := [.ro false (.slice tSkinPoint), .fnc 106 []], res := .one false (.int .i64), run := fun x => g_slices_IndexFunc_i_SkinPoint_i_SkinPoint x.1 x.2.1 }
set_option maxRecDepth 4000 in
theorem ok_slices_IndexFunc_i_SkinPoint_i_SkinPoint : FmOK Try.prog 160 m_slices_IndexFunc_i_SkinPoint_i_SkinPoint := @FmOK.made Try.prog E_slices_IndexFunc_i_SkinPoint_i_SkinPoint ek_slices_IndexFunc_i_SkinPoint_i_SkinPoint 160 Try.f160 (lookL ll_slices_IndexFunc_i_SkinPoint_i_SkinPoint) m_slices_IndexFunc_i_SkinPoint_i_SkinPoint Try.func160 (by kernel_rfl) lo_slices_IndexFunc_i_SkinPoint_i_SkinPoint fun ds out _ hr => by obtain ⟨s, f, ⟨⟩⟩ := ds; exact (ev_slices_IndexFunc_i_SkinPoint_i_SkinPoint s f).trans hr

def E_slices_ContainsFunc_i_SkinPoint_i_SkinPoint : Tabs := (mkE tab [(160, m_slices_IndexFunc_i_SkinPoint_i_SkinPoint)] [])
set_option maxRecDepth 4000 in
theorem ek_slices_ContainsFunc_i_SkinPoint_i_SkinPoint : EnvOK Try.prog E_slices_ContainsFunc_i_SkinPoint_i_SkinPoint := (mkE_ok tab_ok mixed (AllF.cons ok_slices_IndexFunc_i_SkinPoint_i_SkinPoint AllF.nil) AllX.nil)
theorem ev_slices_ContainsFunc_i_SkinPoint_i_SkinPoint (s : (List dSkinPoint)) (f : Unit) : evalF E_slices_ContainsFunc_i_SkinPoint_i_SkinPoint noL Try.f105 [.ro false (.slice tSkinPoint), .fnc 106 []] (.one false .bool) (s, f, ()) = g_slices_ContainsFunc_i_SkinPoint_i_SkinPoint s f := by kernel_rfl
def m_slices_ContainsFunc_i_SkinPoint_i_SkinPoint : FM := { ps := [.ro false (.slice tSkinPoint), .fnc 106 []], res := .one false .bool, run := fun x => g_slices_ContainsFunc_i_SkinPoint_i_SkinPoint x.1 x.2.1 }
set_option maxRecDepth 4000 in
theorem ok_slices_ContainsFunc_i_SkinPoint_i_SkinPoint : FmOK Try.prog 105 m_slices_ContainsFunc_i_SkinPoint_i_SkinPoint := @FmOK.made Try.prog E_slices_ContainsFunc_i_SkinPoint_i_SkinPoint ek_slices_ContainsFunc_i_SkinPoint_i_SkinPoint 105 Try.f105 noL m_slices_ContainsFunc_i_SkinPoint_i_SkinPoint Try.func105 (by kernel_rfl) (Loops.none (by kernel_rfl)) fun ds out _ hr => by obtain ⟨s, f, ⟨⟩⟩ := ds; exact (ev_slices_ContainsFunc_i_SkinPoint_i_SkinPoint s f).trans hr

def E_i_sum : Tabs := (mkE tab [] [])
set_option maxRecDepth 4000 in
theorem ek_i_sum : EnvOK Try.prog E_i_sum := (mkE_ok tab_ok mixed AllF.nil AllX.nil)
def lm_L_i_sum_1 : LM := { mat := [], head := { slots := [(3, .dat false (.flt .f32)), (6, .dat false (.slice (.flt .f32))), (7, .dat false (.int .i64)), (8, .dat false (.int .i64))], blks := [] }, out := { slots := [(3, .dat false (.flt .f32))], blks := [] }, ex := 0, rets := false, run := iter L_i_sum_1 fuel }
def ll_i_sum : List (Nat × LP) := [(3, .lm lm_L_i_sum_1)]
theorem rd_L_i_sum_1 (rec' : (Nat × (List Nat) × Int × Int × Unit) × (Unit) → Option ((Nat × Unit) × (Unit))) (s : Nat) (t6 : (List Nat)) (t7 : Int) (t8 : Int) : round E_i_sum (lookL ll_i_sum) lm_L_i_sum_1 17 (loopAt Try.f107 0) rec' ((s, t6, t7, t8, ()), (())) = L_i_sum_1 rec' ((s, t6, t7, t8, ()), (())) := by kernel_rfl
theorem lo_i_sum : Loops E_i_sum (lookL ll_i_sum) Try.f107 := Loops.list (by kernel_rfl) (by kernel_rfl) ⟨LoopOK.iter (step := L_i_sum_1) (N := fun _ => fuel) (fun rec' x => by obtain ⟨⟨s, t6, t7, t8, ⟨⟩⟩, ⟨⟨⟩⟩⟩ := x; exact rd_L_i_sum_1 rec' s t6 t7 t8) fun _ => rfl, trivial⟩
theorem ev_i_sum (list : (List Nat)) : evalF E_i_sum (lookL ll_i_sum) Try.f107 [.ro false (.slice (.flt .f32))] (.one false (.flt .f32)) (list, ()) = g_i_sum list := by kernel_rfl
def m_i_sum : FM := { ps := [.ro false (.slice (.flt .f32))], res := .one false (.flt .f32), run := fun x => g_i_sum x.1 }
set_option maxRecDepth 4000 in
theorem ok_i_sum : FmOK Try.prog 107 m_i_sum := @FmOK.made Try.prog E_i_sum ek_i_sum 107 Try.f107 (lookL ll_i_sum) m_i_sum Try.func107 (by kernel_rfl) lo_i_sum fun ds out _ hr => by obtain ⟨list, ⟨⟩⟩ := ds; exact (ev_i_sum list).trans hr

def E_i_IsFinite : Tabs := (mkE tab [] [])
set_option maxRecDepth 4000 in
theorem ek_i_IsFinite : EnvOK Try.prog E_i_IsFinite := (mkE_ok tab_ok mixed AllF.nil AllX.nil)
theorem ev_i_IsFinite (xx : Nat) : evalF E_i_IsFinite noL Try.f161 [.ro false (.flt .f32)] (.one false .bool) (xx, ()) = g_i_IsFinite xx := by kernel_rfl
def m_i_IsFinite : FM := { ps := [.ro false (.flt .f32)], res := .one false .bool, run := fun x => some (t_i_IsFinite x.1) }
set_option maxRecDepth 4000 in
theorem ok_i_IsFinite : FmOK Try.prog 161 m_i_IsFinite := @FmOK.made Try.prog E_i_IsFinite ek_i_IsFinite 161 Try.f161 noL m_i_IsFinite Try.func161 (by kernel_rfl) (Loops.none (by kernel_rfl)) fun ds out _ hr => by obtain ⟨xx, ⟨⟩⟩ := ds; exact (ev_i_IsFinite xx).trans ((q_i_IsFinite xx).trans hr)

def E_i_isLength : Tabs := (mkE tab [(161, m_i_IsFinite)] [])
set_option maxRecDepth 4000 in
theorem ek_i_isLength : EnvOK Try.prog E_i_isLength := (mkE_ok tab_ok mixed (AllF.cons ok_i_IsFinite AllF.nil) AllX.nil)
theorem ev_i_isLength (n : Nat) : evalF E_i_isLength noL Try.f108 [.ro false (.flt .f32)] (.one false .bool) (n, ()) = g_i_isLength n := by kernel_rfl
def m_i_isLength : FM := { ps := [.ro false (.flt .f32)], res := .one false .bool, run := fun x => some (t_i_isLength x.1) }
set_option maxRecDepth 4000 in
theorem ok_i_isLength : FmOK Try.prog 108 m_i_isLength := @FmOK.made Try.prog E_i_isLength ek_i_isLength 108 Try.f108 noL m_i_isLength Try.func108 (by kernel_rfl) (Loops.none (by kernel_rfl)) fun ds out _ hr => by obtain ⟨n, ⟨⟩⟩ := ds; exact (ev_i_isLength n).trans ((q_i_isLength n).trans hr)

def E_slices_Clone_int64_int64 : Tabs := (mkE tab [] [])
set_option maxRecDepth 4000 in
theorem ek_slices_Clone_int64_int64 : EnvOK Try.prog E_slices_Clone_int64_int64 := (mkE_ok tab_ok mixed AllF.nil AllX.nil)
theorem ev_slices_Clone_int64_int64 (s : (List Int)) : evalF E_slices_Clone_int64_int64 noL Try.f109 [.ro false (.slice (.int .i64))] (.one false (.slice (.int .i64))) (s, ()) = g_slices_Clone_int64_int64 s := by kernel_rfl
def m_slices_Clone_int64_int64 : FM := { ps := [.ro false (.slice (.int .i64))], res := .one false (.slice (.int .i64)), run := fun x => g_slices_Clone_int64_int64 x.1 }
set_option maxRecDepth 4000 in
theorem ok_slices_Clone_int64_int64 : FmOK Try.prog 109 m_slices_Clone_int64_int64 := @FmOK.made Try.prog E_slices_Clone_int64_int64 ek_slices_Clone_int64_int64 109 Try.f109 noL m_slices_Clone_int64_int64 Try.func109 (by kernel_rfl) (Loops.none (by kernel_rfl)) fun ds out _ hr => by obtain ⟨s, ⟨⟩⟩ := ds; exact (ev_slices_Clone_int64_int64 s).trans hr

def E_i_EvenWeights : Tabs := (mkE tab [(105, m_slices_ContainsFunc_i_SkinPoint_i_SkinPoint), (107, m_i_sum), (108, m_i_isLength), (109, m_slices_Clone_int64_int64)] [])
set_option maxRecDepth 4000 in
theorem ek_i_EvenWeights : EnvOK Try.prog E_i_EvenWeights := (mkE_ok tab_ok mixed (AllF.cons ok_slices_ContainsFunc_i_SkinPoint_i_SkinPoint (AllF.cons ok_i_sum (AllF.cons ok_i_isLength (AllF.cons ok_slices_Clone_int64_int64 AllF.nil)))) AllX.nil)
def lm_L_i_EvenWeights_2 : LM := { mat := [], head := { slots := [(4, .cst (.sl (.row 0))), (6, .cst (.ptr (.box 1 0))), (7, .dat false (.flt .f32)), (8, .cst (.sl (.row 2))), (18, .dat false (.slice tSkinPoint)), (19, .dat false (.int .i64)), (20, .dat false (.int .i64)), (34, .dat false (.slice (.flt .f32))), (35, .dat false (.int .i64)), (36, .dat false (.int .i64))], blks := [.row false tSkinPoint, .box [.dat tSkinPoint], .row false (.flt .f32)] }, out := { slots := [(4, .cst (.sl (.row 0))), (6, .cst (.ptr (.box 1 0))), (8, .cst (.sl (.row 2))), (18, .dat false (.slice tSkinPoint)), (19, .dat false (.int .i64)), (20, .dat false (.int .i64))], blks := [.row false tSkinPoint, .box [.dat tSkinPoint], .row false (.flt .f32)] }, ex := 2, rets := false, run := iter L_i_EvenWeights_2 fuel }
def lm_L_i_EvenWeights_1 : LM := { mat := [.slot 4 tSkinPoint], head := { slots := [(4, .cst (.sl (.row 0))), (18, .dat false (.slice tSkinPoint)), (19, .dat false (.int .i64)), (20, .dat false (.int .i64))], blks := [.row false tSkinPoint] }, out := { slots := [(4, .cst (.sl (.row 0)))], blks := [.row false tSkinPoint] }, ex := 0, rets := false, run := iter L_i_EvenWeights_1 fuel }
def ll_i_EvenWeights : List (Nat × LP) := [(5, .lm lm_L_i_EvenWeights_1), (11, .lm lm_L_i_EvenWeights_2)]
theorem rd_L_i_EvenWeights_2 (rec' : (Nat × (List dSkinPoint) × Int × Int × (List Nat) × Int × Int × Unit) × ((List dSkinPoint) × (dSkinPoint × Unit) × (List Nat) × Unit) → Option (((List dSkinPoint) × Int × Int × Unit) × ((List dSkinPoint) × (dSkinPoint × Unit) × (List Nat) × Unit))) (s : Nat) (t18 : (List dSkinPoint)) (t19 : Int) (t20 : Int) (t34 : (List Nat)) (t35 : Int) (t36 : Int) (r0 : (List dSkinPoint)) (b1 : dSkinPoint) (r2 : (List Nat)) : round E_i_EvenWeights (lookL ll_i_EvenWeights) lm_L_i_EvenWeights_2 62 (loopAt Try.f32 1) rec' ((s, t18, t19, t20, t34, t35, t36, ()), (r0, (b1, ()), r2, ())) = L_i_EvenWeights_2 rec' ((s, t18, t19, t20, t34, t35, t36, ()), (r0, (b1, ()), r2, ())) := by kernel_rfl
theorem rd_L_i_EvenWeights_1 (rec' : ((List dSkinPoint) × Int × Int × Unit) × ((List dSkinPoint) × Unit) → Option ((Unit) × ((List dSkinPoint) × Unit))) (t18 : (List dSkinPoint)) (t19 : Int) (t20 : Int) (r0 : (List dSkinPoint)) : round E_i_EvenWeights (lookL ll_i_EvenWeights) lm_L_i_EvenWeights_1 62 (loopAt Try.f32 0) rec' ((t18, t19, t20, ()), (r0, ())) = L_i_EvenWeights_1 rec' ((t18, t19, t20, ()), (r0, ())) := by kernel_rfl
theorem lo_i_EvenWeights : Loops E_i_EvenWeights (lookL ll_i_EvenWeights) Try.f32 := Loops.list (by kernel_rfl) (by kernel_rfl) ⟨LoopOK.iter (step := L_i_EvenWeights_1) (N := fun _ => fuel) (fun rec' x => by obtain ⟨⟨t18, t19, t20, ⟨⟩⟩, ⟨r0, ⟨⟩⟩⟩ := x; exact rd_L_i_EvenWeights_1 rec' t18 t19 t20 r0) fun _ => rfl, LoopOK.iter (step := L_i_EvenWeights_2) (N := fun _ => fuel) (fun rec' x => by obtain ⟨⟨s, t18, t19, t20, t34, t35, t36, ⟨⟩⟩, ⟨r0, ⟨b1, ⟨⟩⟩, r2, ⟨⟩⟩⟩ := x; exact rd_L_i_EvenWeights_2 rec' s t18 t19 t20 t34 t35 t36 r0 b1 r2) fun _ => rfl, trivial⟩
theorem ev_i_EvenWeights (points : (List dSkinPoint)) : evalF E_i_EvenWeights (lookL ll_i_EvenWeights) Try.f32 [.ro false (.slice tSkinPoint)] (.tup [(false, (.slice tSkinPoint)), (false, .bool)]) (points, ()) = g_i_EvenWeights points := by kernel_rfl
def m_i_EvenWeights : FM := { ps := [.ro false (.slice tSkinPoint)], res := .tup [(false, (.slice tSkinPoint)), (false, .bool)], run := fun x => g_i_EvenWeights x.1 }
set_option maxRecDepth 4000 in
theorem ok_i_EvenWeights : FmOK Try.prog 32 m_i_EvenWeights := @FmOK.made Try.prog E_i_EvenWeights ek_i_EvenWeights 32 Try.f32 (lookL ll_i_EvenWeights) m_i_EvenWeights Try.func32 (by kernel_rfl) lo_i_EvenWeights fun ds out _ hr => by obtain ⟨points, ⟨⟩⟩ := ds; exact (ev_i_EvenWeights points).trans hr

def E_w_markInt64S : Tabs := (mkE tab [] [])
set_option maxRecDepth 4000 in
theorem ek_w_markInt64S : EnvOK Try.prog E_w_markInt64S := (mkE_ok tab_ok mixed AllF.nil AllX.nil)
def lm_L_w_markInt64S_1 : LM := { mat := [], head := { slots := [(0, .cst (.sl (.row 0))), (1, .dat false (.int .i64)), (5, .dat false (.int .i64))], blks := [.row true (.int .i64)] }, out := { slots := [(1, .dat false (.int .i64))], blks := [.row true (.int .i64)] }, ex := 0, rets := false, run := iter L_w_markInt64S_1 fuel }
def ll_w_markInt64S : List (Nat × LP) := [(2, .lm lm_L_w_markInt64S_1)]
theorem rd_L_w_markInt64S_1 (rec' : (Int × Int × Unit) × ((List Int) × Unit) → Option ((Int × Unit) × ((List Int) × Unit))) (k : Int) (i : Int) (r0 : (List Int)) : round E_w_markInt64S (lookL ll_w_markInt64S) lm_L_w_markInt64S_1 19 (loopAt Try.f62 0) rec' ((k, i, ()), (r0, ())) = L_w_markInt64S_1 rec' ((k, i, ()), (r0, ())) := by kernel_rfl
theorem lo_w_markInt64S : Loops E_w_markInt64S (lookL ll_w_markInt64S) Try.f62 := Loops.list (by kernel_rfl) (by kernel_rfl) ⟨LoopOK.iter (step := L_w_markInt64S_1) (N := fun _ => fuel) (fun rec' x => by obtain ⟨⟨k, i, ⟨⟩⟩, ⟨r0, ⟨⟩⟩⟩ := x; exact rd_L_w_markInt64S_1 rec' k i r0) fun _ => rfl, trivial⟩
theorem ev_w_markInt64S (a : (List Int)) (k : Int) : evalX E_w_markInt64S (lookL ll_w_markInt64S) Try.f62 [.own false (.slice (.int .i64)), .ro false (.int .i64)] (.one false (.int .i64)) (a, k, ()) = g_w_markInt64S a k := by kernel_rfl
def m_w_markInt64S : FX := { ps := [.own false (.slice (.int .i64)), .ro false (.int .i64)], res := .one false (.int .i64), run := fun x => g_w_markInt64S x.1 x.2.1 }
set_option maxRecDepth 4000 in
theorem ok_w_markInt64S : FxOK Try.prog 62 m_w_markInt64S := @FxOK.made Try.prog E_w_markInt64S ek_w_markInt64S 62 Try.f62 (lookL ll_w_markInt64S) m_w_markInt64S Try.func62 (by kernel_rfl) lo_w_markInt64S fun ds out _ hr => by obtain ⟨a, k, ⟨⟩⟩ := ds; exact (ev_w_markInt64S a k).trans hr

def E_w_markFloat32S : Tabs := (mkE tab [] [])
set_option maxRecDepth 4000 in
theorem ek_w_markFloat32S : EnvOK Try.prog E_w_markFloat32S := (mkE_ok tab_ok mixed AllF.nil AllX.nil)
def lm_L_w_markFloat32S_1 : LM := { mat := [], head := { slots := [(0, .cst (.sl (.row 0))), (1, .dat false (.int .i64)), (5, .dat false (.int .i64))], blks := [.row true (.flt .f32)] }, out := { slots := [(1, .dat false (.int .i64))], blks := [.row true (.flt .f32)] }, ex := 0, rets := false, run := iter L_w_markFloat32S_1 fuel }
def ll_w_markFloat32S : List (Nat × LP) := [(2, .lm lm_L_w_markFloat32S_1)]
theorem rd_L_w_markFloat32S_1 (rec' : (Int × Int × Unit) × ((List Nat) × Unit) → Option ((Int × Unit) × ((List Nat) × Unit))) (k : Int) (i : Int) (r0 : (List Nat)) : round E_w_markFloat32S (lookL ll_w_markFloat32S) lm_L_w_markFloat32S_1 20 (loopAt Try.f110 0) rec' ((k, i, ()), (r0, ())) = L_w_markFloat32S_1 rec' ((k, i, ()), (r0, ())) := by kernel_rfl
theorem lo_w_markFloat32S : Loops E_w_markFloat32S (lookL ll_w_markFloat32S) Try.f110 := Loops.list (by kernel_rfl) (by kernel_rfl) ⟨LoopOK.iter (step := L_w_markFloat32S_1) (N := fun _ => fuel) (fun rec' x => by obtain ⟨⟨k, i, ⟨⟩⟩, ⟨r0, ⟨⟩⟩⟩ := x; exact rd_L_w_markFloat32S_1 rec' k i r0) fun _ => rfl, trivial⟩
theorem ev_w_markFloat32S (a : (List Nat)) (k : Int) : evalX E_w_markFloat32S (lookL ll_w_markFloat32S) Try.f110 [.own false (.slice (.flt .f32)), .ro false (.int .i64)] (.one false (.int .i64)) (a, k, ()) = g_w_markFloat32S a k := by kernel_rfl
def m_w_markFloat32S : FX := { ps := [.own false (.slice (.flt .f32)), .ro false (.int .i64)], res := .one false (.int .i64), run := fun x => g_w_markFloat32S x.1 x.2.1 }
set_option maxRecDepth 4000 in
theorem ok_w_markFloat32S : FxOK Try.prog 110 m_w_markFloat32S := @FxOK.made Try.prog E_w_markFloat32S ek_w_markFloat32S 110 Try.f110 (lookL ll_w_markFloat32S) m_w_markFloat32S Try.func110 (by kernel_rfl) lo_w_markFloat32S fun ds out _ hr => by obtain ⟨a, k, ⟨⟩⟩ := ds; exact (ev_w_markFloat32S a k).trans hr

def E_w_markSkinPointS : Tabs := (mkE tab [] [(62, m_w_markInt64S), (110, m_w_markFloat32S)])
set_option maxRecDepth 4000 in
theorem ek_w_markSkinPointS : EnvOK Try.prog E_w_markSkinPointS := (mkE_ok tab_ok mixed AllF.nil (AllX.cons ok_w_markInt64S (AllX.cons ok_w_markFloat32S AllX.nil)))
def lm_L_w_markSkinPointS_1 : LM := { mat := [], head := { slots := [(0, .cst (.sl (.row 0))), (1, .dat false (.int .i64)), (5, .dat false (.int .i64))], blks := [.row true tSkinPoint] }, out := { slots := [(1, .dat false (.int .i64))], blks := [.row true tSkinPoint] }, ex := 0, rets := false, run := iter L_w_markSkinPointS_1 fuel }
def ll_w_markSkinPointS : List (Nat × LP) := [(2, .lm lm_L_w_markSkinPointS_1)]
theorem rd_L_w_markSkinPointS_1 (rec' : (Int × Int × Unit) × ((List dSkinPoint) × Unit) → Option ((Int × Unit) × ((List dSkinPoint) × Unit))) (k : Int) (i : Int) (r0 : (List dSkinPoint)) : round E_w_markSkinPointS (lookL ll_w_markSkinPointS) lm_L_w_markSkinPointS_1 54 (loopAt Try.f33 0) rec' ((k, i, ()), (r0, ())) = L_w_markSkinPointS_1 rec' ((k, i, ()), (r0, ())) := by kernel_rfl
theorem lo_w_markSkinPointS : Loops E_w_markSkinPointS (lookL ll_w_markSkinPointS) Try.f33 := Loops.list (by kernel_rfl) (by kernel_rfl) ⟨LoopOK.iter (step := L_w_markSkinPointS_1) (N := fun _ => fuel) (fun rec' x => by obtain ⟨⟨k, i, ⟨⟩⟩, ⟨r0, ⟨⟩⟩⟩ := x; exact rd_L_w_markSkinPointS_1 rec' k i r0) fun _ => rfl, trivial⟩
theorem ev_w_markSkinPointS (a : (List dSkinPoint)) (k : Int) : evalX E_w_markSkinPointS (lookL ll_w_markSkinPointS) Try.f33 [.own false (.slice tSkinPoint), .ro false (.int .i64)] (.one false (.int .i64)) (a, k, ()) = g_w_markSkinPointS a k := by kernel_rfl
def m_w_markSkinPointS : FX := { ps := [.own false (.slice tSkinPoint), .ro false (.int .i64)], res := .one false (.int .i64), run := fun x => g_w_markSkinPointS x.1 x.2.1 }
set_option maxRecDepth 4000 in
theorem ok_w_markSkinPointS : FxOK Try.prog 33 m_w_markSkinPointS := @FxOK.made Try.prog E_w_markSkinPointS ek_w_markSkinPointS 33 Try.f33 (lookL ll_w_markSkinPointS) m_w_markSkinPointS Try.func33 (by kernel_rfl) lo_w_markSkinPointS fun ds out _ hr => by obtain ⟨a, k, ⟨⟩⟩ := ds; exact (ev_w_markSkinPointS a k).trans hr

def E_w_heldInt64S : Tabs := (mkE tab [] [])
set_option maxRecDepth 4000 in
theorem ek_w_heldInt64S : EnvOK Try.prog E_w_heldInt64S := (mkE_ok tab_ok mixed AllF.nil AllX.nil)
def lm_L_w_heldInt64S_1 : LM := { mat := [], head := { slots := [(0, .dat false (.slice (.int .i64))), (1, .dat false (.int .i64)), (4, .dat false (.int .i64)), (5, .dat false (.int .i64))], blks := [] }, out := { slots := [(1, .dat false (.int .i64)), (4, .dat false (.int .i64))], blks := [] }, ex := 0, rets := true, run := iter L_w_heldInt64S_1 fuel }
def ll_w_heldInt64S : List (Nat × LP) := [(2, .lm lm_L_w_heldInt64S_1)]
theorem rd_L_w_heldInt64S_1 (rec' : ((List Int) × Int × Int × Int × Unit) × (Unit) → Option (Bool × ((Int × Int × Unit) × (Unit)))) (a : (List Int)) (k : Int) (t4 : Int) (i : Int) : round E_w_heldInt64S (lookL ll_w_heldInt64S) lm_L_w_heldInt64S_1 21 (loopAt Try.f63 0) rec' ((a, k, t4, i, ()), (())) = L_w_heldInt64S_1 rec' ((a, k, t4, i, ()), (())) := by kernel_rfl
theorem lo_w_heldInt64S : Loops E_w_heldInt64S (lookL ll_w_heldInt64S) Try.f63 := Loops.list (by kernel_rfl) (by kernel_rfl) ⟨LoopOK.iter (step := L_w_heldInt64S_1) (N := fun _ => fuel) (fun rec' x => by obtain ⟨⟨a, k, t4, i, ⟨⟩⟩, ⟨⟨⟩⟩⟩ := x; exact rd_L_w_heldInt64S_1 rec' a k t4 i) fun _ => rfl, trivial⟩
theorem ev_w_heldInt64S (a : (List Int)) (k : Int) : evalF E_w_heldInt64S (lookL ll_w_heldInt64S) Try.f63 [.ro false (.slice (.int .i64)), .ro false (.int .i64)] (.one false (.int .i64)) (a, k, ()) = g_w_heldInt64S a k := by kernel_rfl
def m_w_heldInt64S : FM := { ps := [.ro false (.slice (.int .i64)), .ro false (.int .i64)], res := .one false (.int .i64), run := fun x => g_w_heldInt64S x.1 x.2.1 }
set_option maxRecDepth 4000 in
theorem ok_w_heldInt64S : FmOK Try.prog 63 m_w_heldInt64S := @FmOK.made Try.prog E_w_heldInt64S ek_w_heldInt64S 63 Try.f63 (lookL ll_w_heldInt64S) m_w_heldInt64S Try.func63 (by kernel_rfl) lo_w_heldInt64S fun ds out _ hr => by obtain ⟨a, k, ⟨⟩⟩ := ds; exact (ev_w_heldInt64S a k).trans hr

def E_w_heldFloat32S : Tabs := (mkE tab [] [])
set_option maxRecDepth 4000 in
theorem ek_w_heldFloat32S : EnvOK Try.prog E_w_heldFloat32S := (mkE_ok tab_ok mixed AllF.nil AllX.nil)
def lm_L_w_heldFloat32S_1 : LM := { mat := [], head := { slots := [(0, .dat false (.slice (.flt .f32))), (1, .dat false (.int .i64)), (4, .dat false (.int .i64)), (5, .dat false (.int .i64))], blks := [] }, out := { slots := [(1, .dat false (.int .i64)), (4, .dat false (.int .i64))], blks := [] }, ex := 0, rets := true, run := iter L_w_heldFloat32S_1 fuel }
def ll_w_heldFloat32S : List (Nat × LP) := [(2, .lm lm_L_w_heldFloat32S_1)]
theorem rd_L_w_heldFloat32S_1 (rec' : ((List Nat) × Int × Int × Int × Unit) × (Unit) → Option (Bool × ((Int × Int × Unit) × (Unit)))) (a : (List Nat)) (k : Int) (t4 : Int) (i : Int) : round E_w_heldFloat32S (lookL ll_w_heldFloat32S) lm_L_w_heldFloat32S_1 22 (loopAt Try.f111 0) rec' ((a, k, t4, i, ()), (())) = L_w_heldFloat32S_1 rec' ((a, k, t4, i, ()), (())) := by kernel_rfl
theorem lo_w_heldFloat32S : Loops E_w_heldFloat32S (lookL ll_w_heldFloat32S) Try.f111 := Loops.list (by kernel_rfl) (by kernel_rfl) ⟨LoopOK.iter (step := L_w_heldFloat32S_1) (N := fun _ => fuel) (fun rec' x => by obtain ⟨⟨a, k, t4, i, ⟨⟩⟩, ⟨⟨⟩⟩⟩ := x; exact rd_L_w_heldFloat32S_1 rec' a k t4 i) fun _ => rfl, trivial⟩
theorem ev_w_heldFloat32S (a : (List Nat)) (k : Int) : evalF E_w_heldFloat32S (lookL ll_w_heldFloat32S) Try.f111 [.ro false (.slice (.flt .f32)), .ro false (.int .i64)] (.one false (.int .i64)) (a, k, ()) = g_w_heldFloat32S a k := by kernel_rfl
def m_w_heldFloat32S : FM := { ps := [.ro false (.slice (.flt .f32)), .ro false (.int .i64)], res := .one false (.int .i64), run := fun x => g_w_heldFloat32S x.1 x.2.1 }
set_option maxRecDepth 4000 in
theorem ok_w_heldFloat32S : FmOK Try.prog 111 m_w_heldFloat32S := @FmOK.made Try.prog E_w_heldFloat32S ek_w_heldFloat32S 111 Try.f111 (lookL ll_w_heldFloat32S) m_w_heldFloat32S Try.func111 (by kernel_rfl) lo_w_heldFloat32S fun ds out _ hr => by obtain ⟨a, k, ⟨⟩⟩ := ds; exact (ev_w_heldFloat32S a k).trans hr

def E_w_heldSkinPointS : Tabs := (mkE tab [(63, m_w_heldInt64S), (111, m_w_heldFloat32S)] [])
set_option maxRecDepth 4000 in
theorem ek_w_heldSkinPointS : EnvOK Try.prog E_w_heldSkinPointS := (mkE_ok tab_ok mixed (AllF.cons ok_w_heldInt64S (AllF.cons ok_w_heldFloat32S AllF.nil)) AllX.nil)
def lm_L_w_heldSkinPointS_1 : LM := { mat := [], head := { slots := [(0, .dat false (.slice tSkinPoint)), (1, .dat false (.int .i64)), (4, .dat false (.int .i64)), (5, .dat false (.int .i64))], blks := [] }, out := { slots := [(1, .dat false (.int .i64)), (4, .dat false (.int .i64))], blks := [] }, ex := 0, rets := true, run := iter L_w_heldSkinPointS_1 fuel }
def ll_w_heldSkinPointS : List (Nat × LP) := [(2, .lm lm_L_w_heldSkinPointS_1)]
theorem rd_L_w_heldSkinPointS_1 (rec' : ((List dSkinPoint) × Int × Int × Int × Unit) × (Unit) → Option (Bool × ((Int × Int × Unit) × (Unit)))) (a : (List dSkinPoint)) (k : Int) (t4 : Int) (i : Int) : round E_w_heldSkinPointS (lookL ll_w_heldSkinPointS) lm_L_w_heldSkinPointS_1 64 (loopAt Try.f34 0) rec' ((a, k, t4, i, ()), (())) = L_w_heldSkinPointS_1 rec' ((a, k, t4, i, ()), (())) := by kernel_rfl
theorem lo_w_heldSkinPointS : Loops E_w_heldSkinPointS (lookL ll_w_heldSkinPointS) Try.f34 := Loops.list (by kernel_rfl) (by kernel_rfl) ⟨LoopOK.iter (step := L_w_heldSkinPointS_1) (N := fun _ => fuel) (fun rec' x => by obtain ⟨⟨a, k, t4, i, ⟨⟩⟩, ⟨⟨⟩⟩⟩ := x; exact rd_L_w_heldSkinPointS_1 rec' a k t4 i) fun _ => rfl, trivial⟩
theorem ev_w_heldSkinPointS (a : (List dSkinPoint)) (k : Int) : evalF E_w_heldSkinPointS (lookL ll_w_heldSkinPointS) Try.f34 [.ro false (.slice tSkinPoint), .ro false (.int .i64)] (.one false (.int .i64)) (a, k, ()) = g_w_heldSkinPointS a k := by kernel_rfl
def m_w_heldSkinPointS : FM := { ps := [.ro false (.slice tSkinPoint), .ro false (.int .i64)], res := .one false (.int .i64), run := fun x => g_w_heldSkinPointS x.1 x.2.1 }
set_option maxRecDepth 4000 in
theorem ok_w_heldSkinPointS : FmOK Try.prog 34 m_w_heldSkinPointS := @FmOK.made Try.prog E_w_heldSkinPointS ek_w_heldSkinPointS 34 Try.f34 (lookL ll_w_heldSkinPointS) m_w_heldSkinPointS Try.func34 (by kernel_rfl) lo_w_heldSkinPointS fun ds out _ hr => by obtain ⟨a, k, ⟨⟩⟩ := ds; exact (ev_w_heldSkinPointS a k).trans hr

def E_w_FnExactEvenWeights : Tabs := (mkE tab [(24, m_w_szSkinPointS), (27, m_w_toSkinPointS), (31, m_s_EvenWeights), (32, m_i_EvenWeights), (30, m_w_eqSkinPointS), (34, m_w_heldSkinPointS)] [(33, m_w_markSkinPointS)])
set_option maxRecDepth 4000 in
theorem ek_w_FnExactEvenWeights : EnvOK Try.prog E_w_FnExactEvenWeights := (mkE_ok tab_ok mixed (AllF.cons ok_w_szSkinPointS (AllF.cons ok_w_toSkinPointS (AllF.cons ok_s_EvenWeights (AllF.cons ok_i_EvenWeights (AllF.cons ok_w_eqSkinPointS (AllF.cons ok_w_heldSkinPointS AllF.nil)))))) (AllX.cons ok_w_markSkinPointS AllX.nil))
theorem ev_w_FnExactEvenWeights (aPoints : (List dSkinPoint)) : evalF E_w_FnExactEvenWeights noL Try.f6 [.ro false (.slice tSkinPoint)] (.one false .bool) (aPoints, ()) = g_w_FnExactEvenWeights aPoints := by kernel_rfl
def m_w_FnExactEvenWeights : FM := { ps := [.ro false (.slice tSkinPoint)], res := .one false .bool, run := fun x => g_w_FnExactEvenWeights x.1 }
set_option maxRecDepth 4000 in
theorem ok_w_FnExactEvenWeights : FmOK Try.prog 6 m_w_FnExactEvenWeights := @FmOK.made Try.prog E_w_FnExactEvenWeights ek_w_FnExactEvenWeights 6 Try.f6 noL m_w_FnExactEvenWeights Try.func6 (by kernel_rfl) (Loops.none (by kernel_rfl)) fun ds out _ hr => by obtain ⟨aPoints, ⟨⟩⟩ := ds; exact (ev_w_FnExactEvenWeights aPoints).trans hr

def E_s_l01Less : Tabs := (mkE tab [] [])
set_option maxRecDepth 4000 in
theorem ek_s_l01Less : EnvOK Try.prog E_s_l01Less := (mkE_ok tab_ok mixed AllF.nil AllX.nil)
theorem ev_s_l01Less (a : dVec) (b : dVec) : evalF E_s_l01Less noL Try.f127 [.ro true tVec, .ro true tVec] (.one true tVec) (a, b, ()) = g_s_l01Less a b := by kernel_rfl
def m_s_l01Less : FM := { ps := [.ro true tVec, .ro true tVec], res := .one true tVec, run := fun x => some (t_s_l01Less x.1 x.2.1) }
set_option maxRecDepth 4000 in
theorem ok_s_l01Less : FmOK Try.prog 127 m_s_l01Less := @FmOK.made Try.prog E_s_l01Less ek_s_l01Less 127 Try.f127 noL m_s_l01Less Try.func127 (by kernel_rfl) (Loops.none (by kernel_rfl)) fun ds out _ hr => by obtain ⟨a, b, ⟨⟩⟩ := ds; exact (ev_s_l01Less a b).trans ((q_s_l01Less a b).trans hr)

def E_s_l01Inner : Tabs := (mkE tab [] [])
set_option maxRecDepth 4000 in
theorem ek_s_l01Inner : EnvOK Try.prog E_s_l01Inner := (mkE_ok tab_ok mixed AllF.nil AllX.nil)
theorem ev_s_l01Inner (a : dVec) (b : dVec) : evalF E_s_l01Inner noL Try.f170 [.ro true tVec, .ro true tVec] (.one false (.flt .f32)) (a, b, ()) = g_s_l01Inner a b := by kernel_rfl
def m_s_l01Inner : FM := { ps := [.ro true tVec, .ro true tVec], res := .one false (.flt .f32), run := fun x => some (t_s_l01Inner x.1 x.2.1) }
set_option maxRecDepth 4000 in
theorem ok_s_l01Inner : FmOK Try.prog 170 m_s_l01Inner := @FmOK.made Try.prog E_s_l01Inner ek_s_l01Inner 170 Try.f170 noL m_s_l01Inner Try.func170 (by kernel_rfl) (Loops.none (by kernel_rfl)) fun ds out _ hr => by obtain ⟨a, b, ⟨⟩⟩ := ds; exact (ev_s_l01Inner a b).trans ((q_s_l01Inner a b).trans hr)

set_option maxRecDepth 4000 in
theorem ok_mathsqrt : FmOK Try.prog 206 m_mathsqrt := FmOK.sqrt Try.func206 (by kernel_rfl) rfl (by kernel_rfl) (by kernel_rfl)

def E_math_Sqrt : Tabs := (mkE tab [(206, m_mathsqrt)] [])
set_option maxRecDepth 4000 in
theorem ek_math_Sqrt : EnvOK Try.prog E_math_Sqrt := (mkE_ok tab_ok mixed (AllF.cons ok_mathsqrt AllF.nil) AllX.nil)
theorem ev_math_Sqrt (xx : Nat) : evalF E_math_Sqrt noL Try.f191 [.ro false (.flt .f64)] (.one false (.flt .f64)) (xx, ()) = g_math_Sqrt xx := by kernel_rfl
def m_math_Sqrt : FM := { ps := [.ro false (.flt .f64)], res := .one false (.flt .f64), run := fun x => some (t_math_Sqrt x.1) }
set_option maxRecDepth 4000 in
theorem ok_math_Sqrt : FmOK Try.prog 191 m_math_Sqrt := @FmOK.made Try.prog E_math_Sqrt ek_math_Sqrt 191 Try.f191 noL m_math_Sqrt Try.func191 (by kernel_rfl) (Loops.none (by kernel_rfl)) fun ds out _ hr => by obtain ⟨xx, ⟨⟩⟩ := ds; exact (ev_math_Sqrt xx).trans ((q_math_Sqrt xx).trans hr)

def E_s_l01Narrow : Tabs := (mkE tab [] [])
set_option maxRecDepth 4000 in
theorem ek_s_l01Narrow : EnvOK Try.prog E_s_l01Narrow := (mkE_ok tab_ok mixed AllF.nil AllX.nil)
theorem ev_s_l01Narrow (xx : Nat) : evalF E_s_l01Narrow noL Try.f190 [.ro false (.flt .f64)] (.one false (.flt .f32)) (xx, ()) = g_s_l01Narrow xx := by kernel_rfl
def m_s_l01Narrow : FM := { ps := [.ro false (.flt .f64)], res := .one false (.flt .f32), run := fun x => g_s_l01Narrow x.1 }
set_option maxRecDepth 4000 in
theorem ok_s_l01Narrow : FmOK Try.prog 190 m_s_l01Narrow := @FmOK.made Try.prog E_s_l01Narrow ek_s_l01Narrow 190 Try.f190 noL m_s_l01Narrow Try.func190 (by kernel_rfl) (Loops.none (by kernel_rfl)) fun ds out _ hr => by obtain ⟨xx, ⟨⟩⟩ := ds; exact (ev_s_l01Narrow xx).trans hr

def E_s_l01Sqrt : Tabs := (mkE tab [(191, m_math_Sqrt), (190, m_s_l01Narrow)] [])
set_option maxRecDepth 4000 in
theorem ek_s_l01Sqrt : EnvOK Try.prog E_s_l01Sqrt := (mkE_ok tab_ok mixed (AllF.cons ok_math_Sqrt (AllF.cons ok_s_l01Narrow AllF.nil)) AllX.nil)
theorem ev_s_l01Sqrt (xx : Nat) : evalF E_s_l01Sqrt noL Try.f169 [.ro false (.flt .f32)] (.one false (.flt .f32)) (xx, ()) = g_s_l01Sqrt xx := by kernel_rfl
def m_s_l01Sqrt : FM := { ps := [.ro false (.flt .f32)], res := .one false (.flt .f32), run := fun x => g_s_l01Sqrt x.1 }
set_option maxRecDepth 4000 in
theorem ok_s_l01Sqrt : FmOK Try.prog 169 m_s_l01Sqrt := @FmOK.made Try.prog E_s_l01Sqrt ek_s_l01Sqrt 169 Try.f169 noL m_s_l01Sqrt Try.func169 (by kernel_rfl) (Loops.none (by kernel_rfl)) fun ds out _ hr => by obtain ⟨xx, ⟨⟩⟩ := ds; exact (ev_s_l01Sqrt xx).trans hr

def E_s_l01Long : Tabs := (mkE tab [(170, m_s_l01Inner), (169, m_s_l01Sqrt)] [])
set_option maxRecDepth 4000 in
theorem ek_s_l01Long : EnvOK Try.prog E_s_l01Long := (mkE_ok tab_ok mixed (AllF.cons ok_s_l01Inner (AllF.cons ok_s_l01Sqrt AllF.nil)) AllX.nil)
theorem ev_s_l01Long (v : dVec) : evalF E_s_l01Long noL Try.f126 [.ro true tVec] (.one false (.flt .f32)) (v, ()) = g_s_l01Long v := by kernel_rfl
def m_s_l01Long : FM := { ps := [.ro true tVec], res := .one false (.flt .f32), run := fun x => g_s_l01Long x.1 }
set_option maxRecDepth 4000 in
theorem ok_s_l01Long : FmOK Try.prog 126 m_s_l01Long := @FmOK.made Try.prog E_s_l01Long ek_s_l01Long 126 Try.f126 noL m_s_l01Long Try.func126 (by kernel_rfl) (Loops.none (by kernel_rfl)) fun ds out _ hr => by obtain ⟨v, ⟨⟩⟩ := ds; exact (ev_s_l01Long v).trans hr

def E_s_l04Lengths : Tabs := (mkE tab [(127, m_s_l01Less), (126, m_s_l01Long)] [])
set_option maxRecDepth 4000 in
theorem ek_s_l04Lengths : EnvOK Try.prog E_s_l04Lengths := (mkE_ok tab_ok mixed (AllF.cons ok_s_l01Less (AllF.cons ok_s_l01Long AllF.nil)) AllX.nil)
def lm_L_s_l04Lengths_1 : LM := { mat := [], head := { slots := [(0, .dat false (.slice tVec)), (3, .cst (.sl (.row 0))), (4, .dat false (.int .i64))], blks := [.row false (.flt .f32)] }, out := { slots := [(3, .cst (.sl (.row 0)))], blks := [.row false (.flt .f32)] }, ex := 0, rets := false, run := iter L_s_l04Lengths_1 fuel }
def ll_s_l04Lengths : List (Nat × LP) := [(3, .lm lm_L_s_l04Lengths_1)]
theorem rd_L_s_l04Lengths_1 (rec' : ((List dVec) × Int × Unit) × ((List Nat) × Unit) → Option ((Unit) × ((List Nat) × Unit))) (points : (List dVec)) (i : Int) (r0 : (List Nat)) : round E_s_l04Lengths (lookL ll_s_l04Lengths) lm_L_s_l04Lengths_1 27 (loopAt Try.f112 0) rec' ((points, i, ()), (r0, ())) = L_s_l04Lengths_1 rec' ((points, i, ()), (r0, ())) := by kernel_rfl
theorem lo_s_l04Lengths : Loops E_s_l04Lengths (lookL ll_s_l04Lengths) Try.f112 := Loops.list (by kernel_rfl) (by kernel_rfl) ⟨LoopOK.iter (step := L_s_l04Lengths_1) (N := fun _ => fuel) (fun rec' x => by obtain ⟨⟨points, i, ⟨⟩⟩, ⟨r0, ⟨⟩⟩⟩ := x; exact rd_L_s_l04Lengths_1 rec' points i r0) fun _ => rfl, trivial⟩
theorem ev_s_l04Lengths (points : (List dVec)) : evalF E_s_l04Lengths (lookL ll_s_l04Lengths) Try.f112 [.ro false (.slice tVec)] (.one false (.slice (.flt .f32))) (points, ()) = g_s_l04Lengths points := by kernel_rfl
def m_s_l04Lengths : FM := { ps := [.ro false (.slice tVec)], res := .one false (.slice (.flt .f32)), run := fun x => g_s_l04Lengths x.1 }
set_option maxRecDepth 4000 in
theorem ok_s_l04Lengths : FmOK Try.prog 112 m_s_l04Lengths := @FmOK.made Try.prog E_s_l04Lengths ek_s_l04Lengths 112 Try.f112 (lookL ll_s_l04Lengths) m_s_l04Lengths Try.func112 (by kernel_rfl) lo_s_l04Lengths fun ds out _ hr => by obtain ⟨points, ⟨⟩⟩ := ds; exact (ev_s_l04Lengths points).trans hr

set_option maxRecDepth 4000 in
theorem ok_float32frombits : FmOK Try.prog 188 m_float32frombits := FmOK.from (e := Extern.MathFloatBits.float32frombits) Try.func188 (by kernel_rfl) rfl (by kernel_rfl) (by kernel_rfl) (fun _ _ => rfl) (by decide) (by decide)

def E_s_l01From : Tabs := (mkE tab [(188, m_float32frombits)] [])
set_option maxRecDepth 4000 in
theorem ek_s_l01From : EnvOK Try.prog E_s_l01From := (mkE_ok tab_ok mixed (AllF.cons ok_float32frombits AllF.nil) AllX.nil)
theorem ev_s_l01From (n : Int) : evalF E_s_l01From noL Try.f162 [.ro false (.int .i64)] (.one false (.flt .f32)) (n, ()) = g_s_l01From n := by kernel_rfl
def m_s_l01From : FM := { ps := [.ro false (.int .i64)], res := .one false (.flt .f32), run := fun x => some (t_s_l01From x.1) }
set_option maxRecDepth 4000 in
theorem ok_s_l01From : FmOK Try.prog 162 m_s_l01From := @FmOK.made Try.prog E_s_l01From ek_s_l01From 162 Try.f162 noL m_s_l01From Try.func162 (by kernel_rfl) (Loops.none (by kernel_rfl)) fun ds out _ hr => by obtain ⟨n, ⟨⟩⟩ := ds; exact (ev_s_l01From n).trans ((q_s_l01From n).trans hr)

def E_s_l02Size : Tabs := (mkE tab [(152, m_s_l01Bits), (162, m_s_l01From)] [])
set_option maxRecDepth 4000 in
theorem ek_s_l02Size : EnvOK Try.prog E_s_l02Size := (mkE_ok tab_ok mixed (AllF.cons ok_s_l01Bits (AllF.cons ok_s_l01From AllF.nil)) AllX.nil)
theorem ev_s_l02Size (xx : Nat) : evalF E_s_l02Size noL Try.f113 [.ro false (.flt .f32)] (.one false (.flt .f32)) (xx, ()) = g_s_l02Size xx := by kernel_rfl
def m_s_l02Size : FM := { ps := [.ro false (.flt .f32)], res := .one false (.flt .f32), run := fun x => g_s_l02Size x.1 }
set_option maxRecDepth 4000 in
theorem ok_s_l02Size : FmOK Try.prog 113 m_s_l02Size := @FmOK.made Try.prog E_s_l02Size ek_s_l02Size 113 Try.f113 noL m_s_l02Size Try.func113 (by kernel_rfl) (Loops.none (by kernel_rfl)) fun ds out _ hr => by obtain ⟨xx, ⟨⟩⟩ := ds; exact (ev_s_l02Size xx).trans hr

def E_s_StretchOf : Tabs := (mkE tab [(74, m_s_l08Is), (112, m_s_l04Lengths), (113, m_s_l02Size)] [])
set_option maxRecDepth 4000 in
theorem ek_s_StretchOf : EnvOK Try.prog E_s_StretchOf := (mkE_ok tab_ok mixed (AllF.cons ok_s_l08Is (AllF.cons ok_s_l04Lengths (AllF.cons ok_s_l02Size AllF.nil))) AllX.nil)
def lm_L_s_StretchOf_1 : LM := { mat := [], head := { slots := [(1, .cst (.ptr (.box 0 0))), (4, .dat false (.flt .f32)), (5, .cst (.sl (.row 1))), (6, .dat false (.int .i64))], blks := [.box [.dat tString], .row false (.flt .f32)] }, out := { slots := [(4, .dat false (.flt .f32))], blks := [.dead, .dead] }, ex := 0, rets := false, run := iter L_s_StretchOf_1 fuel }
def ll_s_StretchOf : List (Nat × LP) := [(6, .lm lm_L_s_StretchOf_1)]
theorem rd_L_s_StretchOf_1 (rec' : (Nat × Int × Unit) × ((dString × Unit) × (List Nat) × Unit) → Option ((Nat × Unit) × (Unit))) (most : Nat) (i : Int) (b0 : dString) (r1 : (List Nat)) : round E_s_StretchOf (lookL ll_s_StretchOf) lm_L_s_StretchOf_1 35 (loopAt Try.f35 0) rec' ((most, i, ()), ((b0, ()), r1, ())) = L_s_StretchOf_1 rec' ((most, i, ()), ((b0, ()), r1, ())) := by kernel_rfl
theorem lo_s_StretchOf : Loops E_s_StretchOf (lookL ll_s_StretchOf) Try.f35 := Loops.list (by kernel_rfl) (by kernel_rfl) ⟨LoopOK.iter (step := L_s_StretchOf_1) (N := fun _ => fuel) (fun rec' x => by obtain ⟨⟨most, i, ⟨⟩⟩, ⟨⟨b0, ⟨⟩⟩, r1, ⟨⟩⟩⟩ := x; exact rd_L_s_StretchOf_1 rec' most i b0 r1) fun _ => rfl, trivial⟩
theorem ev_s_StretchOf (s : dString) : evalF E_s_StretchOf (lookL ll_s_StretchOf) Try.f35 [.ro true tString] (.tup [(false, (.flt .f32)), (false, .bool)]) (s, ()) = g_s_StretchOf s := by kernel_rfl
def m_s_StretchOf : FM := { ps := [.ro true tString], res := .tup [(false, (.flt .f32)), (false, .bool)], run := fun x => g_s_StretchOf x.1 }
set_option maxRecDepth 4000 in
theorem ok_s_StretchOf : FmOK Try.prog 35 m_s_StretchOf := @FmOK.made Try.prog E_s_StretchOf ek_s_StretchOf 35 Try.f35 (lookL ll_s_StretchOf) m_s_StretchOf Try.func35 (by kernel_rfl) lo_s_StretchOf fun ds out _ hr => by obtain ⟨s, ⟨⟩⟩ := ds; exact (ev_s_StretchOf s).trans hr

def E_i_LessVectors : Tabs := (mkE tab [] [])
set_option maxRecDepth 4000 in
theorem ek_i_LessVectors : EnvOK Try.prog E_i_LessVectors := (mkE_ok tab_ok mixed AllF.nil AllX.nil)
theorem ev_i_LessVectors (a : dVec) (b : dVec) : evalF E_i_LessVectors noL Try.f130 [.ro true tVec, .ro true tVec] (.one true tVec) (a, b, ()) = g_i_LessVectors a b := by kernel_rfl
def m_i_LessVectors : FM := { ps := [.ro true tVec, .ro true tVec], res := .one true tVec, run := fun x => some (t_i_LessVectors x.1 x.2.1) }
set_option maxRecDepth 4000 in
theorem ok_i_LessVectors : FmOK Try.prog 130 m_i_LessVectors := @FmOK.made Try.prog E_i_LessVectors ek_i_LessVectors 130 Try.f130 noL m_i_LessVectors Try.func130 (by kernel_rfl) (Loops.none (by kernel_rfl)) fun ds out _ hr => by obtain ⟨a, b, ⟨⟩⟩ := ds; exact (ev_i_LessVectors a b).trans ((q_i_LessVectors a b).trans hr)

def E_i_InnerOf : Tabs := (mkE tab [] [])
set_option maxRecDepth 4000 in
theorem ek_i_InnerOf : EnvOK Try.prog E_i_InnerOf := (mkE_ok tab_ok mixed AllF.nil AllX.nil)
theorem ev_i_InnerOf (a : dVec) (b : dVec) : evalF E_i_InnerOf noL Try.f172 [.ro true tVec, .ro true tVec] (.one false (.flt .f32)) (a, b, ()) = g_i_InnerOf a b := by kernel_rfl
def m_i_InnerOf : FM := { ps := [.ro true tVec, .ro true tVec], res := .one false (.flt .f32), run := fun x => some (t_i_InnerOf x.1 x.2.1) }
set_option maxRecDepth 4000 in
theorem ok_i_InnerOf : FmOK Try.prog 172 m_i_InnerOf := @FmOK.made Try.prog E_i_InnerOf ek_i_InnerOf 172 Try.f172 noL m_i_InnerOf Try.func172 (by kernel_rfl) (Loops.none (by kernel_rfl)) fun ds out _ hr => by obtain ⟨a, b, ⟨⟩⟩ := ds; exact (ev_i_InnerOf a b).trans ((q_i_InnerOf a b).trans hr)

def E_i_RootNumber : Tabs := (mkE tab [(191, m_math_Sqrt)] [])
set_option maxRecDepth 4000 in
theorem ek_i_RootNumber : EnvOK Try.prog E_i_RootNumber := (mkE_ok tab_ok mixed (AllF.cons ok_math_Sqrt AllF.nil) AllX.nil)
theorem ev_i_RootNumber (xx : Nat) : evalF E_i_RootNumber noL Try.f171 [.ro false (.flt .f32)] (.one false (.flt .f32)) (xx, ()) = g_i_RootNumber xx := by kernel_rfl
def m_i_RootNumber : FM := { ps := [.ro false (.flt .f32)], res := .one false (.flt .f32), run := fun x => g_i_RootNumber x.1 }
set_option maxRecDepth 4000 in
theorem ok_i_RootNumber : FmOK Try.prog 171 m_i_RootNumber := @FmOK.made Try.prog E_i_RootNumber ek_i_RootNumber 171 Try.f171 noL m_i_RootNumber Try.func171 (by kernel_rfl) (Loops.none (by kernel_rfl)) fun ds out _ hr => by obtain ⟨xx, ⟨⟩⟩ := ds; exact (ev_i_RootNumber xx).trans hr

def E_i_LongOf : Tabs := (mkE tab [(172, m_i_InnerOf), (171, m_i_RootNumber)] [])
set_option maxRecDepth 4000 in
theorem ek_i_LongOf : EnvOK Try.prog E_i_LongOf := (mkE_ok tab_ok mixed (AllF.cons ok_i_InnerOf (AllF.cons ok_i_RootNumber AllF.nil)) AllX.nil)
theorem ev_i_LongOf (v : dVec) : evalF E_i_LongOf noL Try.f129 [.ro true tVec] (.one false (.flt .f32)) (v, ()) = g_i_LongOf v := by kernel_rfl
def m_i_LongOf : FM := { ps := [.ro true tVec], res := .one false (.flt .f32), run := fun x => g_i_LongOf x.1 }
set_option maxRecDepth 4000 in
theorem ok_i_LongOf : FmOK Try.prog 129 m_i_LongOf := @FmOK.made Try.prog E_i_LongOf ek_i_LongOf 129 Try.f129 noL m_i_LongOf Try.func129 (by kernel_rfl) (Loops.none (by kernel_rfl)) fun ds out _ hr => by obtain ⟨v, ⟨⟩⟩ := ds; exact (ev_i_LongOf v).trans hr

def E_i_distances : Tabs := (mkE tab [(130, m_i_LessVectors), (129, m_i_LongOf)] [])
set_option maxRecDepth 4000 in
theorem ek_i_distances : EnvOK Try.prog E_i_distances := (mkE_ok tab_ok mixed (AllF.cons ok_i_LessVectors (AllF.cons ok_i_LongOf AllF.nil)) AllX.nil)
def lm_L_i_distances_1 : LM := { mat := [], head := { slots := [(0, .dat false (.slice tVec)), (3, .cst (.sl (.row 0))), (10, .dat false (.int .i64)), (11, .dat false (.int .i64))], blks := [.row false (.flt .f32)] }, out := { slots := [(3, .cst (.sl (.row 0)))], blks := [.row false (.flt .f32)] }, ex := 0, rets := false, run := iter L_i_distances_1 fuel }
def ll_i_distances : List (Nat × LP) := [(3, .lm lm_L_i_distances_1)]
theorem rd_L_i_distances_1 (rec' : ((List dVec) × Int × Int × Unit) × ((List Nat) × Unit) → Option ((Unit) × ((List Nat) × Unit))) (points : (List dVec)) (t10 : Int) (t11 : Int) (r0 : (List Nat)) : round E_i_distances (lookL ll_i_distances) lm_L_i_distances_1 30 (loopAt Try.f114 0) rec' ((points, t10, t11, ()), (r0, ())) = L_i_distances_1 rec' ((points, t10, t11, ()), (r0, ())) := by kernel_rfl
theorem lo_i_distances : Loops E_i_distances (lookL ll_i_distances) Try.f114 := Loops.list (by kernel_rfl) (by kernel_rfl) ⟨LoopOK.iter (step := L_i_distances_1) (N := fun _ => fuel) (fun rec' x => by obtain ⟨⟨points, t10, t11, ⟨⟩⟩, ⟨r0, ⟨⟩⟩⟩ := x; exact rd_L_i_distances_1 rec' points t10 t11 r0) fun _ => rfl, trivial⟩
theorem ev_i_distances (points : (List dVec)) : evalF E_i_distances (lookL ll_i_distances) Try.f114 [.ro false (.slice tVec)] (.one false (.slice (.flt .f32))) (points, ()) = g_i_distances points := by kernel_rfl
def m_i_distances : FM := { ps := [.ro false (.slice tVec)], res := .one false (.slice (.flt .f32)), run := fun x => g_i_distances x.1 }
set_option maxRecDepth 4000 in
theorem ok_i_distances : FmOK Try.prog 114 m_i_distances := @FmOK.made Try.prog E_i_distances ek_i_distances 114 Try.f114 (lookL ll_i_distances) m_i_distances Try.func114 (by kernel_rfl) lo_i_distances fun ds out _ hr => by obtain ⟨points, ⟨⟩⟩ := ds; exact (ev_i_distances points).trans hr

theorem xr_bits (b : Nat) (w : World) : (callFunc 187 #[.float .f64 b]).run Try.prog w = .ok (.value (.int .u64 b)) w := by
  rw [run_callFunc_extern (e := Extern.MathFloatBits.float64bits) Try.func187 rfl rfl (by kernel_rfl) (by kernel_rfl)]; rfl
theorem xr_from (n : Int) (w : World) : (callFunc 189 #[.int .u64 n]).run Try.prog w = .ok (.value (.float .f64 n.toNat)) w := by
  rw [run_callFunc_extern (e := Extern.MathFloatBits.float64frombits) Try.func189 rfl rfl (by kernel_rfl) (by kernel_rfl)]; rfl

set_option maxHeartbeats 400000 in
theorem xr_abs (b : Nat) (w : World) : Calls Try.prog 163 #[.float .f64 b] w fun e w' => e = .returned (.float .f64 (iandNot .u64 b (2 ^ 63)).toNat) ∧ w' = w := by
  have h1 := xr_bits
  have h2 := xr_from
  go_enter Try.func163, Try.ntmps163
  go_wp2
  go_ret
  exact ⟨rfl, rfl⟩
set_option maxRecDepth 4000 in
theorem ok_mathabs : FmOK Try.prog 163 m_mathabs := FmOK.abs Try.func163 rfl (by kernel_rfl) xr_abs

def E_i_size : Tabs := (mkE tab [(163, m_mathabs)] [])
set_option maxRecDepth 4000 in
theorem ek_i_size : EnvOK Try.prog E_i_size := (mkE_ok tab_ok mixed (AllF.cons ok_mathabs AllF.nil) AllX.nil)
theorem ev_i_size (xx : Nat) : evalF E_i_size noL Try.f116 [.ro false (.flt .f32)] (.one false (.flt .f32)) (xx, ()) = g_i_size xx := by kernel_rfl
def m_i_size : FM := { ps := [.ro false (.flt .f32)], res := .one false (.flt .f32), run := fun x => g_i_size x.1 }
set_option maxRecDepth 4000 in
theorem ok_i_size : FmOK Try.prog 116 m_i_size := @FmOK.made Try.prog E_i_size ek_i_size 116 Try.f116 noL m_i_size Try.func116 (by kernel_rfl) (Loops.none (by kernel_rfl)) fun ds out _ hr => by obtain ⟨xx, ⟨⟩⟩ := ds; exact (ev_i_size xx).trans hr

def E_i_greater : Tabs := (mkE tab [] [])
set_option maxRecDepth 4000 in
theorem ek_i_greater : EnvOK Try.prog E_i_greater := (mkE_ok tab_ok mixed AllF.nil AllX.nil)
theorem ev_i_greater (a : Nat) (b : Nat) : evalF E_i_greater noL Try.f115 [.ro false (.flt .f32), .ro false (.flt .f32)] (.one false (.flt .f32)) (a, b, ()) = g_i_greater a b := by kernel_rfl
def m_i_greater : FM := { ps := [.ro false (.flt .f32), .ro false (.flt .f32)], res := .one false (.flt .f32), run := fun x => some (t_i_greater x.1 x.2.1) }
set_option maxRecDepth 4000 in
theorem ok_i_greater : FmOK Try.prog 115 m_i_greater := @FmOK.made Try.prog E_i_greater ek_i_greater 115 Try.f115 noL m_i_greater Try.func115 (by kernel_rfl) (Loops.none (by kernel_rfl)) fun ds out _ hr => by obtain ⟨a, b, ⟨⟩⟩ := ds; exact (ev_i_greater a b).trans ((q_i_greater a b).trans hr)

def E_i_StretchOf : Tabs := (mkE tab [(82, m_i_ValidString), (114, m_i_distances), (116, m_i_size), (115, m_i_greater)] [])
set_option maxRecDepth 4000 in
theorem ek_i_StretchOf : EnvOK Try.prog E_i_StretchOf := (mkE_ok tab_ok mixed (AllF.cons ok_i_ValidString (AllF.cons ok_i_distances (AllF.cons ok_i_size (AllF.cons ok_i_greater AllF.nil)))) AllX.nil)
def lm_L_i_StretchOf_1 : LM := { mat := [], head := { slots := [(1, .cst (.ptr (.box 0 0))), (4, .dat false (.flt .f32)), (12, .cst (.sl (.row 1))), (13, .dat false (.int .i64)), (14, .dat false (.int .i64))], blks := [.box [.dat tString], .row false (.flt .f32)] }, out := { slots := [(4, .dat false (.flt .f32))], blks := [.dead, .dead] }, ex := 0, rets := false, run := iter L_i_StretchOf_1 fuel }
def ll_i_StretchOf : List (Nat × LP) := [(5, .lm lm_L_i_StretchOf_1)]
theorem rd_L_i_StretchOf_1 (rec' : (Nat × Int × Int × Unit) × ((dString × Unit) × (List Nat) × Unit) → Option ((Nat × Unit) × (Unit))) (most : Nat) (t13 : Int) (t14 : Int) (b0 : dString) (r1 : (List Nat)) : round E_i_StretchOf (lookL ll_i_StretchOf) lm_L_i_StretchOf_1 31 (loopAt Try.f36 0) rec' ((most, t13, t14, ()), ((b0, ()), r1, ())) = L_i_StretchOf_1 rec' ((most, t13, t14, ()), ((b0, ()), r1, ())) := by kernel_rfl
theorem lo_i_StretchOf : Loops E_i_StretchOf (lookL ll_i_StretchOf) Try.f36 := Loops.list (by kernel_rfl) (by kernel_rfl) ⟨LoopOK.iter (step := L_i_StretchOf_1) (N := fun _ => fuel) (fun rec' x => by obtain ⟨⟨most, t13, t14, ⟨⟩⟩, ⟨⟨b0, ⟨⟩⟩, r1, ⟨⟩⟩⟩ := x; exact rd_L_i_StretchOf_1 rec' most t13 t14 b0 r1) fun _ => rfl, trivial⟩
theorem ev_i_StretchOf (s : dString) : evalF E_i_StretchOf (lookL ll_i_StretchOf) Try.f36 [.ro true tString] (.tup [(false, (.flt .f32)), (false, .bool)]) (s, ()) = g_i_StretchOf s := by kernel_rfl
def m_i_StretchOf : FM := { ps := [.ro true tString], res := .tup [(false, (.flt .f32)), (false, .bool)], run := fun x => g_i_StretchOf x.1 }
set_option maxRecDepth 4000 in
theorem ok_i_StretchOf : FmOK Try.prog 36 m_i_StretchOf := @FmOK.made Try.prog E_i_StretchOf ek_i_StretchOf 36 Try.f36 (lookL ll_i_StretchOf) m_i_StretchOf Try.func36 (by kernel_rfl) lo_i_StretchOf fun ds out _ hr => by obtain ⟨s, ⟨⟩⟩ := ds; exact (ev_i_StretchOf s).trans hr

def E_w_FnExactStretchOf : Tabs := (mkE tab [(18, m_w_szString), (20, m_w_toString), (35, m_s_StretchOf), (36, m_i_StretchOf), (37, m_w_sameFloat), (22, m_w_eqString)] [])
set_option maxRecDepth 4000 in
theorem ek_w_FnExactStretchOf : EnvOK Try.prog E_w_FnExactStretchOf := (mkE_ok tab_ok mixed (AllF.cons ok_w_szString (AllF.cons ok_w_toString (AllF.cons ok_s_StretchOf (AllF.cons ok_i_StretchOf (AllF.cons ok_w_sameFloat (AllF.cons ok_w_eqString AllF.nil)))))) AllX.nil)
theorem ev_w_FnExactStretchOf (aS : dString) : evalF E_w_FnExactStretchOf noL Try.f7 [.ro true tString] (.one false .bool) (aS, ()) = g_w_FnExactStretchOf aS := by kernel_rfl
def m_w_FnExactStretchOf : FM := { ps := [.ro true tString], res := .one false .bool, run := fun x => g_w_FnExactStretchOf x.1 }
set_option maxRecDepth 4000 in
theorem ok_w_FnExactStretchOf : FmOK Try.prog 7 m_w_FnExactStretchOf := @FmOK.made Try.prog E_w_FnExactStretchOf ek_w_FnExactStretchOf 7 Try.f7 noL m_w_FnExactStretchOf Try.func7 (by kernel_rfl) (Loops.none (by kernel_rfl)) fun ds out _ hr => by obtain ⟨aS, ⟨⟩⟩ := ds; exact (ev_w_FnExactStretchOf aS).trans hr

def E_s_l03Pose : Tabs := (mkE tab [(93, m_s_l03Is)] [])
set_option maxRecDepth 4000 in
theorem ek_s_l03Pose : EnvOK Try.prog E_s_l03Pose := (mkE_ok tab_ok mixed (AllF.cons ok_s_l03Is AllF.nil) AllX.nil)
theorem ev_s_l03Pose (k : dSkel) (p : dPose) : evalF E_s_l03Pose noL Try.f118 [.rptr tSkel, .rptr tPose] (.one false .bool) (k, p, ()) = g_s_l03Pose k p := by kernel_rfl
def m_s_l03Pose : FM := { ps := [.rptr tSkel, .rptr tPose], res := .one false .bool, run := fun x => g_s_l03Pose x.1 x.2.1 }
set_option maxRecDepth 4000 in
theorem ok_s_l03Pose : FmOK Try.prog 118 m_s_l03Pose := @FmOK.made Try.prog E_s_l03Pose ek_s_l03Pose 118 Try.f118 noL m_s_l03Pose Try.func118 (by kernel_rfl) (Loops.none (by kernel_rfl)) fun ds out _ hr => by obtain ⟨k, p, ⟨⟩⟩ := ds; exact (ev_s_l03Pose k p).trans hr

def E_s_l02Mul : Tabs := (mkE tab [] [])
set_option maxRecDepth 4000 in
theorem ek_s_l02Mul : EnvOK Try.prog E_s_l02Mul := (mkE_ok tab_ok mixed AllF.nil AllX.nil)
theorem ev_s_l02Mul (a : dTurn) (b : dTurn) : evalF E_s_l02Mul noL Try.f164 [.ro true tTurn, .ro true tTurn] (.one true tTurn) (a, b, ()) = g_s_l02Mul a b := by kernel_rfl
def m_s_l02Mul : FM := { ps := [.ro true tTurn, .ro true tTurn], res := .one true tTurn, run := fun x => some (t_s_l02Mul x.1 x.2.1) }
set_option maxRecDepth 4000 in
theorem ok_s_l02Mul : FmOK Try.prog 164 m_s_l02Mul := @FmOK.made Try.prog E_s_l02Mul ek_s_l02Mul 164 Try.f164 noL m_s_l02Mul Try.func164 (by kernel_rfl) (Loops.none (by kernel_rfl)) fun ds out _ hr => by obtain ⟨a, b, ⟨⟩⟩ := ds; exact (ev_s_l02Mul a b).trans ((q_s_l02Mul a b).trans hr)

def E_s_l02Axis : Tabs := (mkE tab [] [])
set_option maxRecDepth 4000 in
theorem ek_s_l02Axis : EnvOK Try.prog E_s_l02Axis := (mkE_ok tab_ok mixed AllF.nil AllX.nil)
theorem ev_s_l02Axis (t : dTurn) : evalF E_s_l02Axis noL Try.f173 [.ro true tTurn] (.one true tVec) (t, ()) = g_s_l02Axis t := by kernel_rfl
def m_s_l02Axis : FM := { ps := [.ro true tTurn], res := .one true tVec, run := fun x => some (t_s_l02Axis x.1) }
set_option maxRecDepth 4000 in
theorem ok_s_l02Axis : FmOK Try.prog 173 m_s_l02Axis := @FmOK.made Try.prog E_s_l02Axis ek_s_l02Axis 173 Try.f173 noL m_s_l02Axis Try.func173 (by kernel_rfl) (Loops.none (by kernel_rfl)) fun ds out _ hr => by obtain ⟨t, ⟨⟩⟩ := ds; exact (ev_s_l02Axis t).trans ((q_s_l02Axis t).trans hr)

def E_s_l01Cross : Tabs := (mkE tab [] [])
set_option maxRecDepth 4000 in
theorem ek_s_l01Cross : EnvOK Try.prog E_s_l01Cross := (mkE_ok tab_ok mixed AllF.nil AllX.nil)
theorem ev_s_l01Cross (a : dVec) (b : dVec) : evalF E_s_l01Cross noL Try.f174 [.ro true tVec, .ro true tVec] (.one true tVec) (a, b, ()) = g_s_l01Cross a b := by kernel_rfl
def m_s_l01Cross : FM := { ps := [.ro true tVec, .ro true tVec], res := .one true tVec, run := fun x => some (t_s_l01Cross x.1 x.2.1) }
set_option maxRecDepth 4000 in
theorem ok_s_l01Cross : FmOK Try.prog 174 m_s_l01Cross := @FmOK.made Try.prog E_s_l01Cross ek_s_l01Cross 174 Try.f174 noL m_s_l01Cross Try.func174 (by kernel_rfl) (Loops.none (by kernel_rfl)) fun ds out _ hr => by obtain ⟨a, b, ⟨⟩⟩ := ds; exact (ev_s_l01Cross a b).trans ((q_s_l01Cross a b).trans hr)

def E_s_l01Scale : Tabs := (mkE tab [] [])
set_option maxRecDepth 4000 in
theorem ek_s_l01Scale : EnvOK Try.prog E_s_l01Scale := (mkE_ok tab_ok mixed AllF.nil AllX.nil)
theorem ev_s_l01Scale (v : dVec) (byx : Nat) : evalF E_s_l01Scale noL Try.f132 [.ro true tVec, .ro false (.flt .f32)] (.one true tVec) (v, byx, ()) = g_s_l01Scale v byx := by kernel_rfl
def m_s_l01Scale : FM := { ps := [.ro true tVec, .ro false (.flt .f32)], res := .one true tVec, run := fun x => some (t_s_l01Scale x.1 x.2.1) }
set_option maxRecDepth 4000 in
theorem ok_s_l01Scale : FmOK Try.prog 132 m_s_l01Scale := @FmOK.made Try.prog E_s_l01Scale ek_s_l01Scale 132 Try.f132 noL m_s_l01Scale Try.func132 (by kernel_rfl) (Loops.none (by kernel_rfl)) fun ds out _ hr => by obtain ⟨v, byx, ⟨⟩⟩ := ds; exact (ev_s_l01Scale v byx).trans ((q_s_l01Scale v byx).trans hr)

def E_s_l01Add : Tabs := (mkE tab [] [])
set_option maxRecDepth 4000 in
theorem ek_s_l01Add : EnvOK Try.prog E_s_l01Add := (mkE_ok tab_ok mixed AllF.nil AllX.nil)
theorem ev_s_l01Add (a : dVec) (b : dVec) : evalF E_s_l01Add noL Try.f131 [.ro true tVec, .ro true tVec] (.one true tVec) (a, b, ()) = g_s_l01Add a b := by kernel_rfl
def m_s_l01Add : FM := { ps := [.ro true tVec, .ro true tVec], res := .one true tVec, run := fun x => some (t_s_l01Add x.1 x.2.1) }
set_option maxRecDepth 4000 in
theorem ok_s_l01Add : FmOK Try.prog 131 m_s_l01Add := @FmOK.made Try.prog E_s_l01Add ek_s_l01Add 131 Try.f131 noL m_s_l01Add Try.func131 (by kernel_rfl) (Loops.none (by kernel_rfl)) fun ds out _ hr => by obtain ⟨a, b, ⟨⟩⟩ := ds; exact (ev_s_l01Add a b).trans ((q_s_l01Add a b).trans hr)

def E_s_l02Rotate : Tabs := (mkE tab [(173, m_s_l02Axis), (174, m_s_l01Cross), (132, m_s_l01Scale), (131, m_s_l01Add)] [])
set_option maxRecDepth 4000 in
theorem ek_s_l02Rotate : EnvOK Try.prog E_s_l02Rotate := (mkE_ok tab_ok mixed (AllF.cons ok_s_l02Axis (AllF.cons ok_s_l01Cross (AllF.cons ok_s_l01Scale (AllF.cons ok_s_l01Add AllF.nil)))) AllX.nil)
theorem ev_s_l02Rotate (t : dTurn) (v : dVec) : evalF E_s_l02Rotate noL Try.f133 [.ro true tTurn, .ro true tVec] (.one true tVec) (t, v, ()) = g_s_l02Rotate t v := by kernel_rfl
def m_s_l02Rotate : FM := { ps := [.ro true tTurn, .ro true tVec], res := .one true tVec, run := fun x => some (t_s_l02Rotate x.1 x.2.1) }
set_option maxRecDepth 4000 in
theorem ok_s_l02Rotate : FmOK Try.prog 133 m_s_l02Rotate := @FmOK.made Try.prog E_s_l02Rotate ek_s_l02Rotate 133 Try.f133 noL m_s_l02Rotate Try.func133 (by kernel_rfl) (Loops.none (by kernel_rfl)) fun ds out _ hr => by obtain ⟨t, v, ⟨⟩⟩ := ds; exact (ev_s_l02Rotate t v).trans ((q_s_l02Rotate t v).trans hr)

def E_s_l03World : Tabs := (mkE tab [(164, m_s_l02Mul), (133, m_s_l02Rotate), (131, m_s_l01Add)] [])
set_option maxRecDepth 4000 in
theorem ek_s_l03World : EnvOK Try.prog E_s_l03World := (mkE_ok tab_ok mixed (AllF.cons ok_s_l02Mul (AllF.cons ok_s_l02Rotate (AllF.cons ok_s_l01Add AllF.nil))) AllX.nil)
def lm_L_s_l03World_1 : LM := { mat := [], head := { slots := [(0, .dat false (.ref tSkel)), (1, .dat false (.ref tPose)), (6, .cst (.sl (.row 0))), (7, .cst (.sl (.row 1))), (8, .dat false (.int .i64))], blks := [.row false tTurn, .row false tVec] }, out := { slots := [(6, .cst (.sl (.row 0))), (7, .cst (.sl (.row 1)))], blks := [.row false tTurn, .row false tVec] }, ex := 0, rets := false, run := iter L_s_l03World_1 fuel }
def ll_s_l03World : List (Nat × LP) := [(4, .lm lm_L_s_l03World_1)]
theorem rd_L_s_l03World_1 (rec' : (dSkel × dPose × Int × Unit) × ((List dTurn) × (List dVec) × Unit) → Option ((Unit) × ((List dTurn) × (List dVec) × Unit))) (k : dSkel) (p : dPose) (i : Int) (r0 : (List dTurn)) (r1 : (List dVec)) : round E_s_l03World (lookL ll_s_l03World) lm_L_s_l03World_1 73 (loopAt Try.f125 0) rec' ((k, p, i, ()), (r0, r1, ())) = L_s_l03World_1 rec' ((k, p, i, ()), (r0, r1, ())) := by kernel_rfl
theorem lo_s_l03World : Loops E_s_l03World (lookL ll_s_l03World) Try.f125 := Loops.list (by kernel_rfl) (by kernel_rfl) ⟨LoopOK.iter (step := L_s_l03World_1) (N := fun _ => fuel) (fun rec' x => by obtain ⟨⟨k, p, i, ⟨⟩⟩, ⟨r0, r1, ⟨⟩⟩⟩ := x; exact rd_L_s_l03World_1 rec' k p i r0 r1) fun _ => rfl, trivial⟩
theorem ev_s_l03World (k : dSkel) (p : dPose) : evalF E_s_l03World (lookL ll_s_l03World) Try.f125 [.rptr tSkel, .rptr tPose] (.tup [(false, (.slice tTurn)), (false, (.slice tVec))]) (k, p, ()) = g_s_l03World k p := by kernel_rfl
def m_s_l03World : FM := { ps := [.rptr tSkel, .rptr tPose], res := .tup [(false, (.slice tTurn)), (false, (.slice tVec))], run := fun x => g_s_l03World x.1 x.2.1 }
set_option maxRecDepth 4000 in
theorem ok_s_l03World : FmOK Try.prog 125 m_s_l03World := @FmOK.made Try.prog E_s_l03World ek_s_l03World 125 Try.f125 (lookL ll_s_l03World) m_s_l03World Try.func125 (by kernel_rfl) lo_s_l03World fun ds out _ hr => by obtain ⟨k, p, ⟨⟩⟩ := ds; exact (ev_s_l03World k p).trans hr

def E_s_l02Inverse : Tabs := (mkE tab [] [])
set_option maxRecDepth 4000 in
theorem ek_s_l02Inverse : EnvOK Try.prog E_s_l02Inverse := (mkE_ok tab_ok mixed AllF.nil AllX.nil)
theorem ev_s_l02Inverse (t : dTurn) : evalF E_s_l02Inverse noL Try.f165 [.ro true tTurn] (.one true tTurn) (t, ()) = g_s_l02Inverse t := by kernel_rfl
def m_s_l02Inverse : FM := { ps := [.ro true tTurn], res := .one true tTurn, run := fun x => some (t_s_l02Inverse x.1) }
set_option maxRecDepth 4000 in
theorem ok_s_l02Inverse : FmOK Try.prog 165 m_s_l02Inverse := @FmOK.made Try.prog E_s_l02Inverse ek_s_l02Inverse 165 Try.f165 noL m_s_l02Inverse Try.func165 (by kernel_rfl) (Loops.none (by kernel_rfl)) fun ds out _ hr => by obtain ⟨t, ⟨⟩⟩ := ds; exact (ev_s_l02Inverse t).trans ((q_s_l02Inverse t).trans hr)

def E_s_l09Moves : Tabs := (mkE tab [(125, m_s_l03World), (165, m_s_l02Inverse), (164, m_s_l02Mul), (133, m_s_l02Rotate), (127, m_s_l01Less)] [])
set_option maxRecDepth 4000 in
theorem ek_s_l09Moves : EnvOK Try.prog E_s_l09Moves := (mkE_ok tab_ok mixed (AllF.cons ok_s_l03World (AllF.cons ok_s_l02Inverse (AllF.cons ok_s_l02Mul (AllF.cons ok_s_l02Rotate (AllF.cons ok_s_l01Less AllF.nil))))) AllX.nil)
def lm_L_s_l09Moves_1 : LM := { mat := [], head := { slots := [(8, .cst (.sl (.row 0))), (9, .cst (.sl (.row 1))), (10, .cst (.sl (.row 2))), (11, .cst (.sl (.row 3))), (12, .cst (.sl (.row 4))), (13, .cst (.sl (.row 5))), (31, .dat false (.int .i64)), (32, .dat false (.int .i64))], blks := [.row false tTurn, .row false tVec, .row false tTurn, .row false tVec, .row false tTurn, .row false tVec] }, out := { slots := [(12, .cst (.sl (.row 4))), (13, .cst (.sl (.row 5)))], blks := [.dead, .dead, .dead, .dead, .row false tTurn, .row false tVec] }, ex := 0, rets := false, run := iter L_s_l09Moves_1 fuel }
def ll_s_l09Moves : List (Nat × LP) := [(6, .lm lm_L_s_l09Moves_1)]
theorem rd_L_s_l09Moves_1 (rec' : (Int × Int × Unit) × ((List dTurn) × (List dVec) × (List dTurn) × (List dVec) × (List dTurn) × (List dVec) × Unit) → Option ((Unit) × ((List dTurn) × (List dVec) × Unit))) (t31 : Int) (t32 : Int) (r0 : (List dTurn)) (r1 : (List dVec)) (r2 : (List dTurn)) (r3 : (List dVec)) (r4 : (List dTurn)) (r5 : (List dVec)) : round E_s_l09Moves (lookL ll_s_l09Moves) lm_L_s_l09Moves_1 66 (loopAt Try.f119 0) rec' ((t31, t32, ()), (r0, r1, r2, r3, r4, r5, ())) = L_s_l09Moves_1 rec' ((t31, t32, ()), (r0, r1, r2, r3, r4, r5, ())) := by kernel_rfl
theorem lo_s_l09Moves : Loops E_s_l09Moves (lookL ll_s_l09Moves) Try.f119 := Loops.list (by kernel_rfl) (by kernel_rfl) ⟨LoopOK.iter (step := L_s_l09Moves_1) (N := fun _ => fuel) (fun rec' x => by obtain ⟨⟨t31, t32, ⟨⟩⟩, ⟨r0, r1, r2, r3, r4, r5, ⟨⟩⟩⟩ := x; exact rd_L_s_l09Moves_1 rec' t31 t32 r0 r1 r2 r3 r4 r5) fun _ => rfl, trivial⟩
theorem ev_s_l09Moves (k : dSkel) (rest : dPose) (p : dPose) : evalF E_s_l09Moves (lookL ll_s_l09Moves) Try.f119 [.rptr tSkel, .rptr tPose, .rptr tPose] (.tup [(false, (.slice tTurn)), (false, (.slice tVec))]) (k, rest, p, ()) = g_s_l09Moves k rest p := by kernel_rfl
def m_s_l09Moves : FM := { ps := [.rptr tSkel, .rptr tPose, .rptr tPose], res := .tup [(false, (.slice tTurn)), (false, (.slice tVec))], run := fun x => g_s_l09Moves x.1 x.2.1 x.2.2.1 }
set_option maxRecDepth 4000 in
theorem ok_s_l09Moves : FmOK Try.prog 119 m_s_l09Moves := @FmOK.made Try.prog E_s_l09Moves ek_s_l09Moves 119 Try.f119 (lookL ll_s_l09Moves) m_s_l09Moves Try.func119 (by kernel_rfl) lo_s_l09Moves fun ds out _ hr => by obtain ⟨k, rest, p, ⟨⟩⟩ := ds; exact (ev_s_l09Moves k rest p).trans hr

def E_s_MovesOf : Tabs := (mkE tab [(118, m_s_l03Pose), (119, m_s_l09Moves)] [])
set_option maxRecDepth 4000 in
theorem ek_s_MovesOf : EnvOK Try.prog E_s_MovesOf := (mkE_ok tab_ok mixed (AllF.cons ok_s_l03Pose (AllF.cons ok_s_l09Moves AllF.nil)) AllX.nil)
theorem ev_s_MovesOf (k : dSkel) (rest : dPose) (p : dPose) : evalF E_s_MovesOf noL Try.f39 [.ro true tSkel, .ro true tPose, .ro true tPose] (.tup [(false, (.slice tTurn)), (false, (.slice tVec)), (false, .bool)]) (k, rest, p, ()) = g_s_MovesOf k rest p := by kernel_rfl
def m_s_MovesOf : FM := { ps := [.ro true tSkel, .ro true tPose, .ro true tPose], res := .tup [(false, (.slice tTurn)), (false, (.slice tVec)), (false, .bool)], run := fun x => g_s_MovesOf x.1 x.2.1 x.2.2.1 }
set_option maxRecDepth 4000 in
theorem ok_s_MovesOf : FmOK Try.prog 39 m_s_MovesOf := @FmOK.made Try.prog E_s_MovesOf ek_s_MovesOf 39 Try.f39 noL m_s_MovesOf Try.func39 (by kernel_rfl) (Loops.none (by kernel_rfl)) fun ds out _ hr => by obtain ⟨k, rest, p, ⟨⟩⟩ := ds; exact (ev_s_MovesOf k rest p).trans hr

def E_i_IsPose : Tabs := (mkE tab [(97, m_i_ValidSkeleton)] [])
set_option maxRecDepth 4000 in
theorem ek_i_IsPose : EnvOK Try.prog E_i_IsPose := (mkE_ok tab_ok mixed (AllF.cons ok_i_ValidSkeleton AllF.nil) AllX.nil)
theorem ev_i_IsPose (k : dSkel) (p : dPose) : evalF E_i_IsPose noL Try.f121 [.ro true tSkel, .ro true tPose] (.one false .bool) (k, p, ()) = g_i_IsPose k p := by kernel_rfl
def m_i_IsPose : FM := { ps := [.ro true tSkel, .ro true tPose], res := .one false .bool, run := fun x => g_i_IsPose x.1 x.2.1 }
set_option maxRecDepth 4000 in
theorem ok_i_IsPose : FmOK Try.prog 121 m_i_IsPose := @FmOK.made Try.prog E_i_IsPose ek_i_IsPose 121 Try.f121 noL m_i_IsPose Try.func121 (by kernel_rfl) (Loops.none (by kernel_rfl)) fun ds out _ hr => by obtain ⟨k, p, ⟨⟩⟩ := ds; exact (ev_i_IsPose k p).trans hr

def E_s_AssignSkin : Tabs := (mkE tab [(118, m_s_l03Pose), (125, m_s_l03World), (127, m_s_l01Less), (126, m_s_l01Long)] [])
set_option maxRecDepth 4000 in
theorem ek_s_AssignSkin : EnvOK Try.prog E_s_AssignSkin := (mkE_ok tab_ok mixed (AllF.cons ok_s_l03Pose (AllF.cons ok_s_l03World (AllF.cons ok_s_l01Less (AllF.cons ok_s_l01Long AllF.nil)))) AllX.nil)
def lm_L_s_AssignSkin_2 : LM := { mat := [], head := { slots := [(2, .dat false (.slice tVec)), (9, .cst (.sl (.row 3))), (10, .cst (.sl (.row 4))), (11, .dat false (.int .i64)), (12, .dat false (.int .i64)), (13, .dat false (.flt .f32)), (29, .dat false (.int .i64)), (30, .dat false (.int .i64)), (43, .dat false (.int .i64)), (44, .dat false (.int .i64))], blks := [.dead, .dead, .dead, .row false tVec, .row false tSkinPoint] }, out := { slots := [(2, .dat false (.slice tVec)), (9, .cst (.sl (.row 3))), (10, .cst (.sl (.row 4))), (11, .dat false (.int .i64)), (12, .dat false (.int .i64)), (29, .dat false (.int .i64)), (30, .dat false (.int .i64))], blks := [.dead, .dead, .dead, .row false tVec, .row false tSkinPoint] }, ex := 2, rets := false, run := iter L_s_AssignSkin_2 fuel }
def lm_L_s_AssignSkin_1 : LM := { mat := [], head := { slots := [(2, .dat false (.slice tVec)), (9, .cst (.sl (.row 3))), (10, .cst (.sl (.row 4))), (29, .dat false (.int .i64)), (30, .dat false (.int .i64))], blks := [.dead, .dead, .dead, .row false tVec, .row false tSkinPoint] }, out := { slots := [(10, .cst (.sl (.row 4)))], blks := [.dead, .dead, .dead, .dead, .row false tSkinPoint] }, ex := 0, rets := false, run := iter L_s_AssignSkin_1 fuel }
def ll_s_AssignSkin : List (Nat × LP) := [(6, .lm lm_L_s_AssignSkin_1), (11, .lm lm_L_s_AssignSkin_2)]
theorem rd_L_s_AssignSkin_2 (rec' : ((List dVec) × Int × Int × Nat × Int × Int × Int × Int × Unit) × ((List dVec) × (List dSkinPoint) × Unit) → Option (((List dVec) × Int × Int × Int × Int × Unit) × ((List dVec) × (List dSkinPoint) × Unit))) (places : (List dVec)) (i : Int) (best : Int) (least : Nat) (t29 : Int) (t30 : Int) (t43 : Int) (t44 : Int) (r3 : (List dVec)) (r4 : (List dSkinPoint)) : round E_s_AssignSkin (lookL ll_s_AssignSkin) lm_L_s_AssignSkin_2 86 (loopAt Try.f52 1) rec' ((places, i, best, least, t29, t30, t43, t44, ()), (r3, r4, ())) = L_s_AssignSkin_2 rec' ((places, i, best, least, t29, t30, t43, t44, ()), (r3, r4, ())) := by kernel_rfl
theorem rd_L_s_AssignSkin_1 (rec' : ((List dVec) × Int × Int × Unit) × ((List dVec) × (List dSkinPoint) × Unit) → Option ((Unit) × ((List dSkinPoint) × Unit))) (places : (List dVec)) (t29 : Int) (t30 : Int) (r3 : (List dVec)) (r4 : (List dSkinPoint)) : round E_s_AssignSkin (lookL ll_s_AssignSkin) lm_L_s_AssignSkin_1 86 (loopAt Try.f52 0) rec' ((places, t29, t30, ()), (r3, r4, ())) = L_s_AssignSkin_1 rec' ((places, t29, t30, ()), (r3, r4, ())) := by kernel_rfl
theorem lo_s_AssignSkin : Loops E_s_AssignSkin (lookL ll_s_AssignSkin) Try.f52 := Loops.list (by kernel_rfl) (by kernel_rfl) ⟨LoopOK.iter (step := L_s_AssignSkin_1) (N := fun _ => fuel) (fun rec' x => by obtain ⟨⟨places, t29, t30, ⟨⟩⟩, ⟨r3, r4, ⟨⟩⟩⟩ := x; exact rd_L_s_AssignSkin_1 rec' places t29 t30 r3 r4) fun _ => rfl, LoopOK.iter (step := L_s_AssignSkin_2) (N := fun _ => fuel) (fun rec' x => by obtain ⟨⟨places, i, best, least, t29, t30, t43, t44, ⟨⟩⟩, ⟨r3, r4, ⟨⟩⟩⟩ := x; exact rd_L_s_AssignSkin_2 rec' places i best least t29 t30 t43 t44 r3 r4) fun _ => rfl, trivial⟩
theorem ev_s_AssignSkin (k : dSkel) (rest : dPose) (places : (List dVec)) : evalF E_s_AssignSkin (lookL ll_s_AssignSkin) Try.f52 [.ro true tSkel, .ro true tPose, .ro false (.slice tVec)] (.tup [(false, (.slice tSkinPoint)), (false, .bool)]) (k, rest, places, ()) = g_s_AssignSkin k rest places := by kernel_rfl
def m_s_AssignSkin : FM := { ps := [.ro true tSkel, .ro true tPose, .ro false (.slice tVec)], res := .tup [(false, (.slice tSkinPoint)), (false, .bool)], run := fun x => g_s_AssignSkin x.1 x.2.1 x.2.2.1 }
set_option maxRecDepth 4000 in
theorem ok_s_AssignSkin : FmOK Try.prog 52 m_s_AssignSkin := @FmOK.made Try.prog E_s_AssignSkin ek_s_AssignSkin 52 Try.f52 (lookL ll_s_AssignSkin) m_s_AssignSkin Try.func52 (by kernel_rfl) lo_s_AssignSkin fun ds out _ hr => by obtain ⟨k, rest, places, ⟨⟩⟩ := ds; exact (ev_s_AssignSkin k rest places).trans hr

def E_s_SkinLinear : Tabs := (mkE tab [(118, m_s_l03Pose), (94, m_s_l09Skin), (119, m_s_l09Moves), (133, m_s_l02Rotate), (131, m_s_l01Add), (132, m_s_l01Scale)] [])
set_option maxRecDepth 4000 in
theorem ek_s_SkinLinear : EnvOK Try.prog E_s_SkinLinear := (mkE_ok tab_ok mixed (AllF.cons ok_s_l03Pose (AllF.cons ok_s_l09Skin (AllF.cons ok_s_l09Moves (AllF.cons ok_s_l02Rotate (AllF.cons ok_s_l01Add (AllF.cons ok_s_l01Scale AllF.nil)))))) AllX.nil)
def lm_L_s_SkinLinear_2 : LM := { mat := [], head := { slots := [(3, .dat false (.slice tSkinPoint)), (10, .cst (.sl (.row 3))), (11, .cst (.sl (.row 4))), (12, .cst (.sl (.row 5))), (14, .cst (.ptr (.box 6 0))), (15, .cst (.ptr (.box 7 0))), (35, .dat false (.int .i64)), (36, .dat false (.int .i64)), (46, .dat false (.int .i64)), (47, .dat false (.int .i64))], blks := [.dead, .dead, .dead, .row false tTurn, .row false tVec, .row false tVec, .box [.dat tSkinPoint], .box [.dat tVec]] }, out := { slots := [(3, .dat false (.slice tSkinPoint)), (10, .cst (.sl (.row 3))), (11, .cst (.sl (.row 4))), (12, .cst (.sl (.row 5))), (15, .cst (.ptr (.box 7 0))), (35, .dat false (.int .i64)), (36, .dat false (.int .i64))], blks := [.dead, .dead, .dead, .row false tTurn, .row false tVec, .row false tVec, .dead, .box [.dat tVec]] }, ex := 2, rets := false, run := iter L_s_SkinLinear_2 fuel }
def lm_L_s_SkinLinear_1 : LM := { mat := [], head := { slots := [(3, .dat false (.slice tSkinPoint)), (10, .cst (.sl (.row 3))), (11, .cst (.sl (.row 4))), (12, .cst (.sl (.row 5))), (35, .dat false (.int .i64)), (36, .dat false (.int .i64))], blks := [.dead, .dead, .dead, .row false tTurn, .row false tVec, .row false tVec] }, out := { slots := [(12, .cst (.sl (.row 5)))], blks := [.dead, .dead, .dead, .dead, .dead, .row false tVec] }, ex := 0, rets := false, run := iter L_s_SkinLinear_1 fuel }
def ll_s_SkinLinear : List (Nat × LP) := [(6, .lm lm_L_s_SkinLinear_1), (11, .lm lm_L_s_SkinLinear_2)]
theorem rd_L_s_SkinLinear_2 (rec' : ((List dSkinPoint) × Int × Int × Int × Int × Unit) × ((List dTurn) × (List dVec) × (List dVec) × (dSkinPoint × Unit) × (dVec × Unit) × Unit) → Option (((List dSkinPoint) × Int × Int × Unit) × ((List dTurn) × (List dVec) × (List dVec) × (dVec × Unit) × Unit))) (points : (List dSkinPoint)) (t35 : Int) (t36 : Int) (t46 : Int) (t47 : Int) (r3 : (List dTurn)) (r4 : (List dVec)) (r5 : (List dVec)) (b6 : dSkinPoint) (b7 : dVec) : round E_s_SkinLinear (lookL ll_s_SkinLinear) lm_L_s_SkinLinear_2 82 (loopAt Try.f55 1) rec' ((points, t35, t36, t46, t47, ()), (r3, r4, r5, (b6, ()), (b7, ()), ())) = L_s_SkinLinear_2 rec' ((points, t35, t36, t46, t47, ()), (r3, r4, r5, (b6, ()), (b7, ()), ())) := by kernel_rfl
theorem rd_L_s_SkinLinear_1 (rec' : ((List dSkinPoint) × Int × Int × Unit) × ((List dTurn) × (List dVec) × (List dVec) × Unit) → Option ((Unit) × ((List dVec) × Unit))) (points : (List dSkinPoint)) (t35 : Int) (t36 : Int) (r3 : (List dTurn)) (r4 : (List dVec)) (r5 : (List dVec)) : round E_s_SkinLinear (lookL ll_s_SkinLinear) lm_L_s_SkinLinear_1 82 (loopAt Try.f55 0) rec' ((points, t35, t36, ()), (r3, r4, r5, ())) = L_s_SkinLinear_1 rec' ((points, t35, t36, ()), (r3, r4, r5, ())) := by kernel_rfl
theorem lo_s_SkinLinear : Loops E_s_SkinLinear (lookL ll_s_SkinLinear) Try.f55 := Loops.list (by kernel_rfl) (by kernel_rfl) ⟨LoopOK.iter (step := L_s_SkinLinear_1) (N := fun _ => fuel) (fun rec' x => by obtain ⟨⟨points, t35, t36, ⟨⟩⟩, ⟨r3, r4, r5, ⟨⟩⟩⟩ := x; exact rd_L_s_SkinLinear_1 rec' points t35 t36 r3 r4 r5) fun _ => rfl, LoopOK.iter (step := L_s_SkinLinear_2) (N := fun _ => fuel) (fun rec' x => by obtain ⟨⟨points, t35, t36, t46, t47, ⟨⟩⟩, ⟨r3, r4, r5, ⟨b6, ⟨⟩⟩, ⟨b7, ⟨⟩⟩, ⟨⟩⟩⟩ := x; exact rd_L_s_SkinLinear_2 rec' points t35 t36 t46 t47 r3 r4 r5 b6 b7) fun _ => rfl, trivial⟩
theorem ev_s_SkinLinear (k : dSkel) (rest : dPose) (p : dPose) (points : (List dSkinPoint)) : evalF E_s_SkinLinear (lookL ll_s_SkinLinear) Try.f55 [.ro true tSkel, .ro true tPose, .ro true tPose, .ro false (.slice tSkinPoint)] (.tup [(false, (.slice tVec)), (false, .bool)]) (k, rest, p, points, ()) = g_s_SkinLinear k rest p points := by kernel_rfl
def m_s_SkinLinear : FM := { ps := [.ro true tSkel, .ro true tPose, .ro true tPose, .ro false (.slice tSkinPoint)], res := .tup [(false, (.slice tVec)), (false, .bool)], run := fun x => g_s_SkinLinear x.1 x.2.1 x.2.2.1 x.2.2.2.1 }
set_option maxRecDepth 4000 in
theorem ok_s_SkinLinear : FmOK Try.prog 55 m_s_SkinLinear := @FmOK.made Try.prog E_s_SkinLinear ek_s_SkinLinear 55 Try.f55 (lookL ll_s_SkinLinear) m_s_SkinLinear Try.func55 (by kernel_rfl) lo_s_SkinLinear fun ds out _ hr => by obtain ⟨k, rest, p, points, ⟨⟩⟩ := ds; exact (ev_s_SkinLinear k rest p points).trans hr

def E_i_canSkin : Tabs := (mkE tab [(121, m_i_IsPose), (28, m_i_IsSkin)] [])
set_option maxRecDepth 4000 in
theorem ek_i_canSkin : EnvOK Try.prog E_i_canSkin := (mkE_ok tab_ok mixed (AllF.cons ok_i_IsPose (AllF.cons ok_i_IsSkin AllF.nil)) AllX.nil)
theorem ev_i_canSkin (k : dSkel) (rest : dPose) (p : dPose) (points : (List dSkinPoint)) : evalF E_i_canSkin noL Try.f134 [.ro true tSkel, .ro true tPose, .ro true tPose, .ro false (.slice tSkinPoint)] (.one false .bool) (k, rest, p, points, ()) = g_i_canSkin k rest p points := by kernel_rfl
def m_i_canSkin : FM := { ps := [.ro true tSkel, .ro true tPose, .ro true tPose, .ro false (.slice tSkinPoint)], res := .one false .bool, run := fun x => g_i_canSkin x.1 x.2.1 x.2.2.1 x.2.2.2.1 }
set_option maxRecDepth 4000 in
theorem ok_i_canSkin : FmOK Try.prog 134 m_i_canSkin := @FmOK.made Try.prog E_i_canSkin ek_i_canSkin 134 Try.f134 noL m_i_canSkin Try.func134 (by kernel_rfl) (Loops.none (by kernel_rfl)) fun ds out _ hr => by obtain ⟨k, rest, p, points, ⟨⟩⟩ := ds; exact (ev_i_canSkin k rest p points).trans hr

def E_s_l02Inner : Tabs := (mkE tab [] [])
set_option maxRecDepth 4000 in
theorem ek_s_l02Inner : EnvOK Try.prog E_s_l02Inner := (mkE_ok tab_ok mixed AllF.nil AllX.nil)
theorem ev_s_l02Inner (a : dTurn) (b : dTurn) : evalF E_s_l02Inner noL Try.f178 [.ro true tTurn, .ro true tTurn] (.one false (.flt .f32)) (a, b, ()) = g_s_l02Inner a b := by kernel_rfl
def m_s_l02Inner : FM := { ps := [.ro true tTurn, .ro true tTurn], res := .one false (.flt .f32), run := fun x => some (t_s_l02Inner x.1 x.2.1) }
set_option maxRecDepth 4000 in
theorem ok_s_l02Inner : FmOK Try.prog 178 m_s_l02Inner := @FmOK.made Try.prog E_s_l02Inner ek_s_l02Inner 178 Try.f178 noL m_s_l02Inner Try.func178 (by kernel_rfl) (Loops.none (by kernel_rfl)) fun ds out _ hr => by obtain ⟨a, b, ⟨⟩⟩ := ds; exact (ev_s_l02Inner a b).trans ((q_s_l02Inner a b).trans hr)

def E_s_l02Opposite : Tabs := (mkE tab [] [])
set_option maxRecDepth 4000 in
theorem ek_s_l02Opposite : EnvOK Try.prog E_s_l02Opposite := (mkE_ok tab_ok mixed AllF.nil AllX.nil)
theorem ev_s_l02Opposite (t : dTurn) (inner : Nat) : evalF E_s_l02Opposite noL Try.f177 [.ro true tTurn, .ro false (.flt .f32)] (.one true tTurn) (t, inner, ()) = g_s_l02Opposite t inner := by kernel_rfl
def m_s_l02Opposite : FM := { ps := [.ro true tTurn, .ro false (.flt .f32)], res := .one true tTurn, run := fun x => some (t_s_l02Opposite x.1 x.2.1) }
set_option maxRecDepth 4000 in
theorem ok_s_l02Opposite : FmOK Try.prog 177 m_s_l02Opposite := @FmOK.made Try.prog E_s_l02Opposite ek_s_l02Opposite 177 Try.f177 noL m_s_l02Opposite Try.func177 (by kernel_rfl) (Loops.none (by kernel_rfl)) fun ds out _ hr => by obtain ⟨t, inner, ⟨⟩⟩ := ds; exact (ev_s_l02Opposite t inner).trans ((q_s_l02Opposite t inner).trans hr)

def E_s_l02No : Tabs := (mkE tab [] [])
set_option maxRecDepth 4000 in
theorem ek_s_l02No : EnvOK Try.prog E_s_l02No := (mkE_ok tab_ok mixed AllF.nil AllX.nil)
theorem ev_s_l02No  : evalF E_s_l02No noL Try.f192 [] (.one true tTurn) (()) = g_s_l02No  := by kernel_rfl
def m_s_l02No : FM := { ps := [], res := .one true tTurn, run := fun x => some (t_s_l02No ) }
set_option maxRecDepth 4000 in
theorem ok_s_l02No : FmOK Try.prog 192 m_s_l02No := @FmOK.made Try.prog E_s_l02No ek_s_l02No 192 Try.f192 noL m_s_l02No Try.func192 (by kernel_rfl) (Loops.none (by kernel_rfl)) fun ds out _ hr => by obtain ⟨⟨⟩⟩ := ds; exact (ev_s_l02No ).trans ((q_s_l02No ).trans hr)

def E_s_l02Mend : Tabs := (mkE tab [(178, m_s_l02Inner), (169, m_s_l01Sqrt), (192, m_s_l02No), (104, m_s_l01Finite)] [])
set_option maxRecDepth 4000 in
theorem ek_s_l02Mend : EnvOK Try.prog E_s_l02Mend := (mkE_ok tab_ok mixed (AllF.cons ok_s_l02Inner (AllF.cons ok_s_l01Sqrt (AllF.cons ok_s_l02No (AllF.cons ok_s_l01Finite AllF.nil)))) AllX.nil)
theorem ev_s_l02Mend (t : dTurn) : evalF E_s_l02Mend noL Try.f179 [.ro true tTurn] (.one true tTurn) (t, ()) = g_s_l02Mend t := by kernel_rfl
def m_s_l02Mend : FM := { ps := [.ro true tTurn], res := .one true tTurn, run := fun x => g_s_l02Mend x.1 }
set_option maxRecDepth 4000 in
theorem ok_s_l02Mend : FmOK Try.prog 179 m_s_l02Mend := @FmOK.made Try.prog E_s_l02Mend ek_s_l02Mend 179 Try.f179 noL m_s_l02Mend Try.func179 (by kernel_rfl) (Loops.none (by kernel_rfl)) fun ds out _ hr => by obtain ⟨t, ⟨⟩⟩ := ds; exact (ev_s_l02Mend t).trans hr

def E_s_l02Mix : Tabs := (mkE tab [(178, m_s_l02Inner), (177, m_s_l02Opposite), (179, m_s_l02Mend)] [])
set_option maxRecDepth 4000 in
theorem ek_s_l02Mix : EnvOK Try.prog E_s_l02Mix := (mkE_ok tab_ok mixed (AllF.cons ok_s_l02Inner (AllF.cons ok_s_l02Opposite (AllF.cons ok_s_l02Mend AllF.nil))) AllX.nil)
def lm_L_s_l02Mix_1 : LM := { mat := [], head := { slots := [(0, .dat false (.slice tTurn)), (1, .dat false (.slice (.flt .f32))), (4, .cst (.ptr (.box 0 0))), (5, .cst (.ptr (.box 1 0))), (6, .dat false (.int .i64))], blks := [.box [.dat tTurn], .box [.dat tTurn]] }, out := { slots := [(4, .cst (.ptr (.box 0 0))), (5, .cst (.ptr (.box 1 0)))], blks := [.box [.dat tTurn], .box [.dat tTurn]] }, ex := 0, rets := false, run := iter L_s_l02Mix_1 fuel }
def ll_s_l02Mix : List (Nat × LP) := [(3, .lm lm_L_s_l02Mix_1)]
theorem rd_L_s_l02Mix_1 (rec' : ((List dTurn) × (List Nat) × Int × Unit) × ((dTurn × Unit) × (dTurn × Unit) × Unit) → Option ((Unit) × ((dTurn × Unit) × (dTurn × Unit) × Unit))) (list : (List dTurn)) (weights : (List Nat)) (i : Int) (b0 : dTurn) (b1 : dTurn) : round E_s_l02Mix (lookL ll_s_l02Mix) lm_L_s_l02Mix_1 74 (loopAt Try.f138 0) rec' ((list, weights, i, ()), ((b0, ()), (b1, ()), ())) = L_s_l02Mix_1 rec' ((list, weights, i, ()), ((b0, ()), (b1, ()), ())) := by kernel_rfl
theorem lo_s_l02Mix : Loops E_s_l02Mix (lookL ll_s_l02Mix) Try.f138 := Loops.list (by kernel_rfl) (by kernel_rfl) ⟨LoopOK.iter (step := L_s_l02Mix_1) (N := fun _ => fuel) (fun rec' x => by obtain ⟨⟨list, weights, i, ⟨⟩⟩, ⟨⟨b0, ⟨⟩⟩, ⟨b1, ⟨⟩⟩, ⟨⟩⟩⟩ := x; exact rd_L_s_l02Mix_1 rec' list weights i b0 b1) fun _ => rfl, trivial⟩
theorem ev_s_l02Mix (list : (List dTurn)) (weights : (List Nat)) : evalF E_s_l02Mix (lookL ll_s_l02Mix) Try.f138 [.ro false (.slice tTurn), .ro false (.slice (.flt .f32))] (.one true tTurn) (list, weights, ()) = g_s_l02Mix list weights := by kernel_rfl
def m_s_l02Mix : FM := { ps := [.ro false (.slice tTurn), .ro false (.slice (.flt .f32))], res := .one true tTurn, run := fun x => g_s_l02Mix x.1 x.2.1 }
set_option maxRecDepth 4000 in
theorem ok_s_l02Mix : FmOK Try.prog 138 m_s_l02Mix := @FmOK.made Try.prog E_s_l02Mix ek_s_l02Mix 138 Try.f138 (lookL ll_s_l02Mix) m_s_l02Mix Try.func138 (by kernel_rfl) lo_s_l02Mix fun ds out _ hr => by obtain ⟨list, weights, ⟨⟩⟩ := ds; exact (ev_s_l02Mix list weights).trans hr

def E_s_SkinMixed : Tabs := (mkE tab [(118, m_s_l03Pose), (94, m_s_l09Skin), (119, m_s_l09Moves), (132, m_s_l01Scale), (131, m_s_l01Add), (138, m_s_l02Mix), (133, m_s_l02Rotate)] [])
set_option maxRecDepth 4000 in
theorem ek_s_SkinMixed : EnvOK Try.prog E_s_SkinMixed := (mkE_ok tab_ok mixed (AllF.cons ok_s_l03Pose (AllF.cons ok_s_l09Skin (AllF.cons ok_s_l09Moves (AllF.cons ok_s_l01Scale (AllF.cons ok_s_l01Add (AllF.cons ok_s_l02Mix (AllF.cons ok_s_l02Rotate AllF.nil))))))) AllX.nil)
def lm_L_s_SkinMixed_2 : LM := { mat := [], head := { slots := [(3, .dat false (.slice tSkinPoint)), (10, .cst (.sl (.row 3))), (11, .cst (.sl (.row 4))), (12, .cst (.sl (.row 5))), (14, .cst (.ptr (.box 6 0))), (15, .cst (.ptr (.box 7 0))), (16, .cst (.sl (.row 8))), (36, .dat false (.int .i64)), (37, .dat false (.int .i64)), (48, .dat false (.int .i64)), (49, .dat false (.int .i64))], blks := [.dead, .dead, .dead, .row false tTurn, .row false tVec, .row false tVec, .box [.dat tSkinPoint], .box [.dat tVec], .row false tTurn] }, out := { slots := [(3, .dat false (.slice tSkinPoint)), (10, .cst (.sl (.row 3))), (11, .cst (.sl (.row 4))), (12, .cst (.sl (.row 5))), (14, .cst (.ptr (.box 6 0))), (15, .cst (.ptr (.box 7 0))), (16, .cst (.sl (.row 8))), (36, .dat false (.int .i64)), (37, .dat false (.int .i64))], blks := [.dead, .dead, .dead, .row false tTurn, .row false tVec, .row false tVec, .box [.dat tSkinPoint], .box [.dat tVec], .row false tTurn] }, ex := 2, rets := false, run := iter L_s_SkinMixed_2 fuel }
def lm_L_s_SkinMixed_1 : LM := { mat := [], head := { slots := [(3, .dat false (.slice tSkinPoint)), (10, .cst (.sl (.row 3))), (11, .cst (.sl (.row 4))), (12, .cst (.sl (.row 5))), (36, .dat false (.int .i64)), (37, .dat false (.int .i64))], blks := [.dead, .dead, .dead, .row false tTurn, .row false tVec, .row false tVec] }, out := { slots := [(12, .cst (.sl (.row 5)))], blks := [.dead, .dead, .dead, .dead, .dead, .row false tVec] }, ex := 0, rets := false, run := iter L_s_SkinMixed_1 fuel }
def ll_s_SkinMixed : List (Nat × LP) := [(6, .lm lm_L_s_SkinMixed_1), (12, .lm lm_L_s_SkinMixed_2)]
theorem rd_L_s_SkinMixed_2 (rec' : ((List dSkinPoint) × Int × Int × Int × Int × Unit) × ((List dTurn) × (List dVec) × (List dVec) × (dSkinPoint × Unit) × (dVec × Unit) × (List dTurn) × Unit) → Option (((List dSkinPoint) × Int × Int × Unit) × ((List dTurn) × (List dVec) × (List dVec) × (dSkinPoint × Unit) × (dVec × Unit) × (List dTurn) × Unit))) (points : (List dSkinPoint)) (t36 : Int) (t37 : Int) (t48 : Int) (t49 : Int) (r3 : (List dTurn)) (r4 : (List dVec)) (r5 : (List dVec)) (b6 : dSkinPoint) (b7 : dVec) (r8 : (List dTurn)) : round E_s_SkinMixed (lookL ll_s_SkinMixed) lm_L_s_SkinMixed_2 91 (loopAt Try.f57 1) rec' ((points, t36, t37, t48, t49, ()), (r3, r4, r5, (b6, ()), (b7, ()), r8, ())) = L_s_SkinMixed_2 rec' ((points, t36, t37, t48, t49, ()), (r3, r4, r5, (b6, ()), (b7, ()), r8, ())) := by kernel_rfl
theorem rd_L_s_SkinMixed_1 (rec' : ((List dSkinPoint) × Int × Int × Unit) × ((List dTurn) × (List dVec) × (List dVec) × Unit) → Option ((Unit) × ((List dVec) × Unit))) (points : (List dSkinPoint)) (t36 : Int) (t37 : Int) (r3 : (List dTurn)) (r4 : (List dVec)) (r5 : (List dVec)) : round E_s_SkinMixed (lookL ll_s_SkinMixed) lm_L_s_SkinMixed_1 91 (loopAt Try.f57 0) rec' ((points, t36, t37, ()), (r3, r4, r5, ())) = L_s_SkinMixed_1 rec' ((points, t36, t37, ()), (r3, r4, r5, ())) := by kernel_rfl
theorem lo_s_SkinMixed : Loops E_s_SkinMixed (lookL ll_s_SkinMixed) Try.f57 := Loops.list (by kernel_rfl) (by kernel_rfl) ⟨LoopOK.iter (step := L_s_SkinMixed_1) (N := fun _ => fuel) (fun rec' x => by obtain ⟨⟨points, t36, t37, ⟨⟩⟩, ⟨r3, r4, r5, ⟨⟩⟩⟩ := x; exact rd_L_s_SkinMixed_1 rec' points t36 t37 r3 r4 r5) fun _ => rfl, LoopOK.iter (step := L_s_SkinMixed_2) (N := fun _ => fuel) (fun rec' x => by obtain ⟨⟨points, t36, t37, t48, t49, ⟨⟩⟩, ⟨r3, r4, r5, ⟨b6, ⟨⟩⟩, ⟨b7, ⟨⟩⟩, r8, ⟨⟩⟩⟩ := x; exact rd_L_s_SkinMixed_2 rec' points t36 t37 t48 t49 r3 r4 r5 b6 b7 r8) fun _ => rfl, trivial⟩
theorem ev_s_SkinMixed (k : dSkel) (rest : dPose) (p : dPose) (points : (List dSkinPoint)) : evalF E_s_SkinMixed (lookL ll_s_SkinMixed) Try.f57 [.ro true tSkel, .ro true tPose, .ro true tPose, .ro false (.slice tSkinPoint)] (.tup [(false, (.slice tVec)), (false, .bool)]) (k, rest, p, points, ()) = g_s_SkinMixed k rest p points := by kernel_rfl
def m_s_SkinMixed : FM := { ps := [.ro true tSkel, .ro true tPose, .ro true tPose, .ro false (.slice tSkinPoint)], res := .tup [(false, (.slice tVec)), (false, .bool)], run := fun x => g_s_SkinMixed x.1 x.2.1 x.2.2.1 x.2.2.2.1 }
set_option maxRecDepth 4000 in
theorem ok_s_SkinMixed : FmOK Try.prog 57 m_s_SkinMixed := @FmOK.made Try.prog E_s_SkinMixed ek_s_SkinMixed 57 Try.f57 (lookL ll_s_SkinMixed) m_s_SkinMixed Try.func57 (by kernel_rfl) lo_s_SkinMixed fun ds out _ hr => by obtain ⟨k, rest, p, points, ⟨⟩⟩ := ds; exact (ev_s_SkinMixed k rest p points).trans hr

def E_s_l00Put : Tabs := (mkE tab [] [])
set_option maxRecDepth 4000 in
theorem ek_s_l00Put : EnvOK Try.prog E_s_l00Put := (mkE_ok tab_ok mixed AllF.nil AllX.nil)
def lm_L_s_l00Put_1 : LM := { mat := [], head := { slots := [(0, .dat false (.slice (.int .i64))), (1, .dat false (.int .i64)), (5, .cst (.sl (.row 0))), (6, .dat false .bool), (7, .dat false (.int .i64))], blks := [.row false (.int .i64)] }, out := { slots := [(1, .dat false (.int .i64)), (5, .cst (.sl (.row 0))), (6, .dat false .bool)], blks := [.row false (.int .i64)] }, ex := 0, rets := false, run := iter L_s_l00Put_1 fuel }
def ll_s_l00Put : List (Nat × LP) := [(4, .lm lm_L_s_l00Put_1)]
theorem rd_L_s_l00Put_1 (rec' : ((List Int) × Int × Bool × Int × Unit) × ((List Int) × Unit) → Option ((Int × Bool × Unit) × ((List Int) × Unit))) (list : (List Int)) (n : Int) (done : Bool) (i : Int) (r0 : (List Int)) : round E_s_l00Put (lookL ll_s_l00Put) lm_L_s_l00Put_1 49 (loopAt Try.f140 0) rec' ((list, n, done, i, ()), (r0, ())) = L_s_l00Put_1 rec' ((list, n, done, i, ()), (r0, ())) := by kernel_rfl
theorem lo_s_l00Put : Loops E_s_l00Put (lookL ll_s_l00Put) Try.f140 := Loops.list (by kernel_rfl) (by kernel_rfl) ⟨LoopOK.iter (step := L_s_l00Put_1) (N := fun _ => fuel) (fun rec' x => by obtain ⟨⟨list, n, done, i, ⟨⟩⟩, ⟨r0, ⟨⟩⟩⟩ := x; exact rd_L_s_l00Put_1 rec' list n done i r0) fun _ => rfl, trivial⟩
theorem ev_s_l00Put (list : (List Int)) (n : Int) : evalF E_s_l00Put (lookL ll_s_l00Put) Try.f140 [.ro false (.slice (.int .i64)), .ro false (.int .i64)] (.one false (.slice (.int .i64))) (list, n, ()) = g_s_l00Put list n := by kernel_rfl
def m_s_l00Put : FM := { ps := [.ro false (.slice (.int .i64)), .ro false (.int .i64)], res := .one false (.slice (.int .i64)), run := fun x => g_s_l00Put x.1 x.2.1 }
set_option maxRecDepth 4000 in
theorem ok_s_l00Put : FmOK Try.prog 140 m_s_l00Put := @FmOK.made Try.prog E_s_l00Put ek_s_l00Put 140 Try.f140 (lookL ll_s_l00Put) m_s_l00Put Try.func140 (by kernel_rfl) lo_s_l00Put fun ds out _ hr => by obtain ⟨list, n, ⟨⟩⟩ := ds; exact (ev_s_l00Put list n).trans hr
end
end Go.Fw.B
