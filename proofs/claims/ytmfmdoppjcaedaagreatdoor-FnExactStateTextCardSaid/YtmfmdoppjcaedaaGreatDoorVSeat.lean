/- The functions of the translation compute what the plain functions compute. No condition. -/
import Derived.Test.YtmfmdoppjcaedaaGreatDoorVPure
import Derived.Test.YtmfmdoppjcaedaaGreatDoorProg
import Derived.Test.YtmfmdoppjcaedaaGreatDoorVLay
import Derived.KernelRfl
set_option linter.unusedVariables false
namespace Go.Fw.V
open Go.Fw Go.Proofs Go.RowKit
noncomputable section
def tab : List (Nat × TI) := [
  (2, { und := .int .i64, size := 1, bytes := 8, zero := [.int .i64 0], ty := (.int .i64) }),
  (3, { und := .int .i64, size := 1, bytes := 8, zero := [.int .i64 0], ty := (.int .i64) }),
  (4, { und := .bool, size := 1, bytes := 1, zero := [.bool false], ty := .bool }),
  (5, { und := .int .u8, size := 1, bytes := 1, zero := [.int .u8 0], ty := (.int .u8) }),
  (9, { und := .str, size := 1, bytes := 16, zero := [.str ByteArray.empty], ty := .str }),
  (22, { und := .slice 62, size := 1, bytes := 24, zero := [.sl .nil], ty := (.slice tClip) }),
  (23, { und := .slice 80, size := 1, bytes := 24, zero := [.sl .nil], ty := (.slice tState) }),
  (24, { und := .slice 82, size := 1, bytes := 24, zero := [.sl .nil], ty := (.slice tRule) }),
  (26, { und := .struct [(0, 22), (1, 23), (2, 24)], size := 3, bytes := 72, zero := [.sl .nil, .sl .nil, .sl .nil], ty := tMachine }),
  (28, { und := .struct [(0, 2), (1, 2), (2, 2), (3, 2), (4, 2), (5, 2)], size := 6, bytes := 48, zero := [.int .i64 0, .int .i64 0, .int .i64 0, .int .i64 0, .int .i64 0, .int .i64 0], ty := tRun }),
  (32, { und := .slice 69, size := 1, bytes := 24, zero := [.sl .nil], ty := (.slice tClip) }),
  (33, { und := .slice 71, size := 1, bytes := 24, zero := [.sl .nil], ty := (.slice tState) }),
  (34, { und := .slice 74, size := 1, bytes := 24, zero := [.sl .nil], ty := (.slice tRule) }),
  (36, { und := .struct [(0, 32), (1, 33), (2, 34)], size := 3, bytes := 72, zero := [.sl .nil, .sl .nil, .sl .nil], ty := tMachine }),
  (38, { und := .struct [(0, 2), (1, 2), (2, 2), (3, 2), (4, 2), (5, 2)], size := 6, bytes := 48, zero := [.int .i64 0, .int .i64 0, .int .i64 0, .int .i64 0, .int .i64 0, .int .i64 0], ty := tRun }),
  (46, { und := .other, size := 1, bytes := 8, zero := [.pnil], ty := .unit }),
  (48, { und := .other, size := 1, bytes := 8, zero := [.pnil], ty := .unit }),
  (59, { und := .slice 111, size := 1, bytes := 24, zero := [.sl .nil], ty := (.slice (.slice tKey)) }),
  (60, { und := .slice 125, size := 1, bytes := 24, zero := [.sl .nil], ty := (.slice tRootKey) }),
  (62, { und := .struct [(0, 2), (1, 2), (2, 59), (3, 60)], size := 4, bytes := 64, zero := [.int .i64 0, .int .i64 0, .sl .nil, .sl .nil], ty := tClip }),
  (65, { und := .other, size := 1, bytes := 8, zero := [.pnil], ty := .unit }),
  (66, { und := .slice 95, size := 1, bytes := 24, zero := [.sl .nil], ty := (.slice (.slice tKey)) }),
  (67, { und := .slice 119, size := 1, bytes := 24, zero := [.sl .nil], ty := (.slice tRootKey) }),
  (69, { und := .struct [(0, 2), (1, 2), (2, 66), (3, 67)], size := 4, bytes := 64, zero := [.int .i64 0, .int .i64 0, .sl .nil, .sl .nil], ty := tClip }),
  (71, { und := .struct [(0, 2), (1, 2), (2, 4)], size := 3, bytes := 24, zero := [.int .i64 0, .int .i64 0, .bool false], ty := tState }),
  (72, { und := .flt .f32, size := 1, bytes := 4, zero := [.flt .f32 0], ty := (.flt .f32) }),
  (74, { und := .struct [(0, 2), (1, 2), (2, 2), (3, 2), (4, 72), (5, 2)], size := 6, bytes := 48, zero := [.int .i64 0, .int .i64 0, .int .i64 0, .int .i64 0, .flt .f32 0, .int .i64 0], ty := tRule }),
  (77, { und := .slice 2, size := 1, bytes := 24, zero := [.sl .nil], ty := (.slice (.int .i64)) }),
  (80, { und := .struct [(0, 2), (1, 2), (2, 4)], size := 3, bytes := 24, zero := [.int .i64 0, .int .i64 0, .bool false], ty := tState }),
  (82, { und := .struct [(0, 2), (1, 2), (2, 2), (3, 2), (4, 72), (5, 2)], size := 6, bytes := 48, zero := [.int .i64 0, .int .i64 0, .int .i64 0, .int .i64 0, .flt .f32 0, .int .i64 0], ty := tRule }),
  (85, { und := .slice 9, size := 1, bytes := 24, zero := [.sl .nil], ty := (.slice .str) }),
  (95, { und := .slice 115, size := 1, bytes := 24, zero := [.sl .nil], ty := (.slice tKey) }),
  (102, { und := .other, size := 1, bytes := 8, zero := [.undef], ty := .unit }),
  (109, { und := .flt .f64, size := 1, bytes := 8, zero := [.flt .f64 0], ty := (.flt .f64) }),
  (111, { und := .slice 143, size := 1, bytes := 24, zero := [.sl .nil], ty := (.slice tKey) }),
  (113, { und := .struct [(0, 72), (1, 72), (2, 72), (3, 72)], size := 4, bytes := 16, zero := [.flt .f32 0, .flt .f32 0, .flt .f32 0, .flt .f32 0], ty := tTurn }),
  (115, { und := .struct [(0, 2), (1, 113)], size := 5, bytes := 24, zero := [.int .i64 0, .flt .f32 0, .flt .f32 0, .flt .f32 0, .flt .f32 0], ty := tKey }),
  (117, { und := .struct [(0, 72), (1, 72), (2, 72)], size := 3, bytes := 12, zero := [.flt .f32 0, .flt .f32 0, .flt .f32 0], ty := tVec }),
  (119, { und := .struct [(0, 2), (1, 117)], size := 4, bytes := 24, zero := [.int .i64 0, .flt .f32 0, .flt .f32 0, .flt .f32 0], ty := tRootKey }),
  (120, { und := .slice 5, size := 1, bytes := 24, zero := [.sl .nil], ty := (.slice (.int .u8)) }),
  (123, { und := .struct [(0, 72), (1, 72), (2, 72)], size := 3, bytes := 12, zero := [.flt .f32 0, .flt .f32 0, .flt .f32 0], ty := tVec }),
  (125, { und := .struct [(0, 2), (1, 123)], size := 4, bytes := 24, zero := [.int .i64 0, .flt .f32 0, .flt .f32 0, .flt .f32 0], ty := tRootKey }),
  (127, { und := .other, size := 1, bytes := 8, zero := [.undef], ty := .unit }),
  (129, { und := .other, size := 1, bytes := 8, zero := [.pnil], ty := .unit }),
  (131, { und := .struct [(0, 129), (1, 120)], size := 2, bytes := 32, zero := [.pnil, .sl .nil], ty := .unit }),
  (141, { und := .struct [(0, 72), (1, 72), (2, 72), (3, 72)], size := 4, bytes := 16, zero := [.flt .f32 0, .flt .f32 0, .flt .f32 0, .flt .f32 0], ty := tTurn }),
  (143, { und := .struct [(0, 2), (1, 141)], size := 5, bytes := 24, zero := [.int .i64 0, .flt .f32 0, .flt .f32 0, .flt .f32 0, .flt .f32 0], ty := tKey }),
  (146, { und := .other, size := 1, bytes := 8, zero := [.undef], ty := .unit }),
  (147, { und := .other, size := 1, bytes := 8, zero := [.undef], ty := .unit }),
  (148, { und := .other, size := 1, bytes := 8, zero := [.undef], ty := .unit }),
  (150, { und := .struct [(0, 146), (1, 147), (2, 148)], size := 3, bytes := 24, zero := [.undef, .undef, .undef], ty := .unit }),
  (153, { und := .other, size := 1, bytes := 8, zero := [.undef], ty := .unit }),
  (154, { und := .other, size := 1, bytes := 8, zero := [.undef], ty := .unit }),
  (155, { und := .other, size := 1, bytes := 8, zero := [.undef], ty := .unit }),
  (157, { und := .struct [(0, 153), (1, 154), (2, 155)], size := 3, bytes := 24, zero := [.undef, .undef, .undef], ty := .unit })]
theorem tab_ok : TabOK Tryz.prog (lookT tab) := tabB_spec (by kernel_rfl)
theorem mixed : Tryz.prog.follows .mixedOrders = true := by kernel_rfl
def E_w_szKeyS : Tabs := (mkE tab [] [])
set_option maxRecDepth 4000 in
theorem ek_w_szKeyS : EnvOK Tryz.prog E_w_szKeyS := (mkE_ok tab_ok mixed AllF.nil AllX.nil)
theorem ev_w_szKeyS (a : (List dKey)) (left : Int) : evalF E_w_szKeyS noL Tryz.f57 [.ro false (.slice tKey), .ro false (.int .i64)] (.one false (.int .i64)) (a, left, ()) = g_w_szKeyS a left := by kernel_rfl
def m_w_szKeyS : FM := { ps := [.ro false (.slice tKey), .ro false (.int .i64)], res := .one false (.int .i64), run := fun x => some (t_w_szKeyS x.1 x.2.1) }
set_option maxRecDepth 4000 in
theorem ok_w_szKeyS : FmOK Tryz.prog 57 m_w_szKeyS := @FmOK.made Tryz.prog E_w_szKeyS ek_w_szKeyS 57 Tryz.f57 noL m_w_szKeyS Tryz.func57 (by kernel_rfl) (Loops.none (by kernel_rfl)) fun ds out _ hr => by obtain ⟨a, left, ⟨⟩⟩ := ds; exact (ev_w_szKeyS a left).trans ((q_w_szKeyS a left).trans hr)

def E_w_szKeySS : Tabs := (mkE tab [(57, m_w_szKeyS)] [])
set_option maxRecDepth 4000 in
theorem ek_w_szKeySS : EnvOK Tryz.prog E_w_szKeySS := (mkE_ok tab_ok mixed (AllF.cons ok_w_szKeyS AllF.nil) AllX.nil)
def lm_L_w_szKeySS_1 : LM := { mat := [], head := { slots := [(0, .dat false (.slice (.slice tKey))), (1, .dat false (.int .i64)), (4, .dat false (.int .i64)), (5, .dat false (.int .i64))], blks := [] }, out := { slots := [(1, .dat false (.int .i64)), (4, .dat false (.int .i64))], blks := [] }, ex := 0, rets := true, run := iter L_w_szKeySS_1 fuel }
def ll_w_szKeySS : List (Nat × LP) := [(5, .lm lm_L_w_szKeySS_1)]
theorem rd_L_w_szKeySS_1 (rec' : ((List (List dKey)) × Int × Int × Int × Unit) × (Unit) → Option (Bool × ((Int × Int × Unit) × (Unit)))) (a : (List (List dKey))) (left : Int) (t4 : Int) (i : Int) : round E_w_szKeySS (lookL ll_w_szKeySS) lm_L_w_szKeySS_1 27 (loopAt Tryz.f39 0) rec' ((a, left, t4, i, ()), (())) = L_w_szKeySS_1 rec' ((a, left, t4, i, ()), (())) := by kernel_rfl
theorem lo_w_szKeySS : Loops E_w_szKeySS (lookL ll_w_szKeySS) Tryz.f39 := Loops.list (by kernel_rfl) (by kernel_rfl) ⟨LoopOK.iter (step := L_w_szKeySS_1) (N := fun _ => fuel) (fun rec' x => by obtain ⟨⟨a, left, t4, i, ⟨⟩⟩, ⟨⟨⟩⟩⟩ := x; exact rd_L_w_szKeySS_1 rec' a left t4 i) fun _ => rfl, trivial⟩
theorem ev_w_szKeySS (a : (List (List dKey))) (left : Int) : evalF E_w_szKeySS (lookL ll_w_szKeySS) Tryz.f39 [.ro false (.slice (.slice tKey)), .ro false (.int .i64)] (.one false (.int .i64)) (a, left, ()) = g_w_szKeySS a left := by kernel_rfl
def m_w_szKeySS : FM := { ps := [.ro false (.slice (.slice tKey)), .ro false (.int .i64)], res := .one false (.int .i64), run := fun x => g_w_szKeySS x.1 x.2.1 }
set_option maxRecDepth 4000 in
theorem ok_w_szKeySS : FmOK Tryz.prog 39 m_w_szKeySS := @FmOK.made Tryz.prog E_w_szKeySS ek_w_szKeySS 39 Tryz.f39 (lookL ll_w_szKeySS) m_w_szKeySS Tryz.func39 (by kernel_rfl) lo_w_szKeySS fun ds out _ hr => by obtain ⟨a, left, ⟨⟩⟩ := ds; exact (ev_w_szKeySS a left).trans hr

def E_w_szRootKeyS : Tabs := (mkE tab [] [])
set_option maxRecDepth 4000 in
theorem ek_w_szRootKeyS : EnvOK Tryz.prog E_w_szRootKeyS := (mkE_ok tab_ok mixed AllF.nil AllX.nil)
theorem ev_w_szRootKeyS (a : (List dRootKey)) (left : Int) : evalF E_w_szRootKeyS noL Tryz.f40 [.ro false (.slice tRootKey), .ro false (.int .i64)] (.one false (.int .i64)) (a, left, ()) = g_w_szRootKeyS a left := by kernel_rfl
def m_w_szRootKeyS : FM := { ps := [.ro false (.slice tRootKey), .ro false (.int .i64)], res := .one false (.int .i64), run := fun x => some (t_w_szRootKeyS x.1 x.2.1) }
set_option maxRecDepth 4000 in
theorem ok_w_szRootKeyS : FmOK Tryz.prog 40 m_w_szRootKeyS := @FmOK.made Tryz.prog E_w_szRootKeyS ek_w_szRootKeyS 40 Tryz.f40 noL m_w_szRootKeyS Tryz.func40 (by kernel_rfl) (Loops.none (by kernel_rfl)) fun ds out _ hr => by obtain ⟨a, left, ⟨⟩⟩ := ds; exact (ev_w_szRootKeyS a left).trans ((q_w_szRootKeyS a left).trans hr)

def E_w_szClip : Tabs := (mkE tab [(39, m_w_szKeySS), (40, m_w_szRootKeyS)] [])
set_option maxRecDepth 4000 in
theorem ek_w_szClip : EnvOK Tryz.prog E_w_szClip := (mkE_ok tab_ok mixed (AllF.cons ok_w_szKeySS (AllF.cons ok_w_szRootKeyS AllF.nil)) AllX.nil)
theorem ev_w_szClip (a : dClip) (left : Int) : evalF E_w_szClip noL Tryz.f24 [.ro true tClip, .ro false (.int .i64)] (.one false (.int .i64)) (a, left, ()) = g_w_szClip a left := by kernel_rfl
def m_w_szClip : FM := { ps := [.ro true tClip, .ro false (.int .i64)], res := .one false (.int .i64), run := fun x => g_w_szClip x.1 x.2.1 }
set_option maxRecDepth 4000 in
theorem ok_w_szClip : FmOK Tryz.prog 24 m_w_szClip := @FmOK.made Tryz.prog E_w_szClip ek_w_szClip 24 Tryz.f24 noL m_w_szClip Tryz.func24 (by kernel_rfl) (Loops.none (by kernel_rfl)) fun ds out _ hr => by obtain ⟨a, left, ⟨⟩⟩ := ds; exact (ev_w_szClip a left).trans hr

def E_w_szClipS : Tabs := (mkE tab [(24, m_w_szClip)] [])
set_option maxRecDepth 4000 in
theorem ek_w_szClipS : EnvOK Tryz.prog E_w_szClipS := (mkE_ok tab_ok mixed (AllF.cons ok_w_szClip AllF.nil) AllX.nil)
def lm_L_w_szClipS_1 : LM := { mat := [], head := { slots := [(0, .dat false (.slice tClip)), (1, .dat false (.int .i64)), (4, .dat false (.int .i64)), (5, .dat false (.int .i64))], blks := [] }, out := { slots := [(1, .dat false (.int .i64)), (4, .dat false (.int .i64))], blks := [] }, ex := 0, rets := true, run := iter L_w_szClipS_1 fuel }
def ll_w_szClipS : List (Nat × LP) := [(5, .lm lm_L_w_szClipS_1)]
theorem rd_L_w_szClipS_1 (rec' : ((List dClip) × Int × Int × Int × Unit) × (Unit) → Option (Bool × ((Int × Int × Unit) × (Unit)))) (a : (List dClip)) (left : Int) (t4 : Int) (i : Int) : round E_w_szClipS (lookL ll_w_szClipS) lm_L_w_szClipS_1 27 (loopAt Tryz.f10 0) rec' ((a, left, t4, i, ()), (())) = L_w_szClipS_1 rec' ((a, left, t4, i, ()), (())) := by kernel_rfl
theorem lo_w_szClipS : Loops E_w_szClipS (lookL ll_w_szClipS) Tryz.f10 := Loops.list (by kernel_rfl) (by kernel_rfl) ⟨LoopOK.iter (step := L_w_szClipS_1) (N := fun _ => fuel) (fun rec' x => by obtain ⟨⟨a, left, t4, i, ⟨⟩⟩, ⟨⟨⟩⟩⟩ := x; exact rd_L_w_szClipS_1 rec' a left t4 i) fun _ => rfl, trivial⟩
theorem ev_w_szClipS (a : (List dClip)) (left : Int) : evalF E_w_szClipS (lookL ll_w_szClipS) Tryz.f10 [.ro false (.slice tClip), .ro false (.int .i64)] (.one false (.int .i64)) (a, left, ()) = g_w_szClipS a left := by kernel_rfl
def m_w_szClipS : FM := { ps := [.ro false (.slice tClip), .ro false (.int .i64)], res := .one false (.int .i64), run := fun x => g_w_szClipS x.1 x.2.1 }
set_option maxRecDepth 4000 in
theorem ok_w_szClipS : FmOK Tryz.prog 10 m_w_szClipS := @FmOK.made Tryz.prog E_w_szClipS ek_w_szClipS 10 Tryz.f10 (lookL ll_w_szClipS) m_w_szClipS Tryz.func10 (by kernel_rfl) lo_w_szClipS fun ds out _ hr => by obtain ⟨a, left, ⟨⟩⟩ := ds; exact (ev_w_szClipS a left).trans hr

def E_w_szStateS : Tabs := (mkE tab [] [])
set_option maxRecDepth 4000 in
theorem ek_w_szStateS : EnvOK Tryz.prog E_w_szStateS := (mkE_ok tab_ok mixed AllF.nil AllX.nil)
theorem ev_w_szStateS (a : (List dState)) (left : Int) : evalF E_w_szStateS noL Tryz.f11 [.ro false (.slice tState), .ro false (.int .i64)] (.one false (.int .i64)) (a, left, ()) = g_w_szStateS a left := by kernel_rfl
def m_w_szStateS : FM := { ps := [.ro false (.slice tState), .ro false (.int .i64)], res := .one false (.int .i64), run := fun x => some (t_w_szStateS x.1 x.2.1) }
set_option maxRecDepth 4000 in
theorem ok_w_szStateS : FmOK Tryz.prog 11 m_w_szStateS := @FmOK.made Tryz.prog E_w_szStateS ek_w_szStateS 11 Tryz.f11 noL m_w_szStateS Tryz.func11 (by kernel_rfl) (Loops.none (by kernel_rfl)) fun ds out _ hr => by obtain ⟨a, left, ⟨⟩⟩ := ds; exact (ev_w_szStateS a left).trans ((q_w_szStateS a left).trans hr)

def E_w_szRuleS : Tabs := (mkE tab [] [])
set_option maxRecDepth 4000 in
theorem ek_w_szRuleS : EnvOK Tryz.prog E_w_szRuleS := (mkE_ok tab_ok mixed AllF.nil AllX.nil)
theorem ev_w_szRuleS (a : (List dRule)) (left : Int) : evalF E_w_szRuleS noL Tryz.f12 [.ro false (.slice tRule), .ro false (.int .i64)] (.one false (.int .i64)) (a, left, ()) = g_w_szRuleS a left := by kernel_rfl
def m_w_szRuleS : FM := { ps := [.ro false (.slice tRule), .ro false (.int .i64)], res := .one false (.int .i64), run := fun x => some (t_w_szRuleS x.1 x.2.1) }
set_option maxRecDepth 4000 in
theorem ok_w_szRuleS : FmOK Tryz.prog 12 m_w_szRuleS := @FmOK.made Tryz.prog E_w_szRuleS ek_w_szRuleS 12 Tryz.f12 noL m_w_szRuleS Tryz.func12 (by kernel_rfl) (Loops.none (by kernel_rfl)) fun ds out _ hr => by obtain ⟨a, left, ⟨⟩⟩ := ds; exact (ev_w_szRuleS a left).trans ((q_w_szRuleS a left).trans hr)

def E_w_szMachine : Tabs := (mkE tab [(10, m_w_szClipS), (11, m_w_szStateS), (12, m_w_szRuleS)] [])
set_option maxRecDepth 4000 in
theorem ek_w_szMachine : EnvOK Tryz.prog E_w_szMachine := (mkE_ok tab_ok mixed (AllF.cons ok_w_szClipS (AllF.cons ok_w_szStateS (AllF.cons ok_w_szRuleS AllF.nil))) AllX.nil)
theorem ev_w_szMachine (a : dMachine) (left : Int) : evalF E_w_szMachine noL Tryz.f4 [.ro true tMachine, .ro false (.int .i64)] (.one false (.int .i64)) (a, left, ()) = g_w_szMachine a left := by kernel_rfl
def m_w_szMachine : FM := { ps := [.ro true tMachine, .ro false (.int .i64)], res := .one false (.int .i64), run := fun x => g_w_szMachine x.1 x.2.1 }
set_option maxRecDepth 4000 in
theorem ok_w_szMachine : FmOK Tryz.prog 4 m_w_szMachine := @FmOK.made Tryz.prog E_w_szMachine ek_w_szMachine 4 Tryz.f4 noL m_w_szMachine Tryz.func4 (by kernel_rfl) (Loops.none (by kernel_rfl)) fun ds out _ hr => by obtain ⟨a, left, ⟨⟩⟩ := ds; exact (ev_w_szMachine a left).trans hr

def E_w_toTurn : Tabs := (mkE tab [] [])
set_option maxRecDepth 4000 in
theorem ek_w_toTurn : EnvOK Tryz.prog E_w_toTurn := (mkE_ok tab_ok mixed AllF.nil AllX.nil)
theorem ev_w_toTurn (a : dTurn) : evalF E_w_toTurn noL Tryz.f85 [.ro true tTurn] (.one true tTurn) (a, ()) = g_w_toTurn a := by kernel_rfl
def m_w_toTurn : FM := { ps := [.ro true tTurn], res := .one true tTurn, run := fun x => some (t_w_toTurn x.1) }
set_option maxRecDepth 4000 in
theorem ok_w_toTurn : FmOK Tryz.prog 85 m_w_toTurn := @FmOK.made Tryz.prog E_w_toTurn ek_w_toTurn 85 Tryz.f85 noL m_w_toTurn Tryz.func85 (by kernel_rfl) (Loops.none (by kernel_rfl)) fun ds out _ hr => by obtain ⟨a, ⟨⟩⟩ := ds; exact (ev_w_toTurn a).trans ((q_w_toTurn a).trans hr)

def E_w_toKey : Tabs := (mkE tab [(85, m_w_toTurn)] [])
set_option maxRecDepth 4000 in
theorem ek_w_toKey : EnvOK Tryz.prog E_w_toKey := (mkE_ok tab_ok mixed (AllF.cons ok_w_toTurn AllF.nil) AllX.nil)
theorem ev_w_toKey (a : dKey) : evalF E_w_toKey noL Tryz.f70 [.ro true tKey] (.one true tKey) (a, ()) = g_w_toKey a := by kernel_rfl
def m_w_toKey : FM := { ps := [.ro true tKey], res := .one true tKey, run := fun x => some (t_w_toKey x.1) }
set_option maxRecDepth 4000 in
theorem ok_w_toKey : FmOK Tryz.prog 70 m_w_toKey := @FmOK.made Tryz.prog E_w_toKey ek_w_toKey 70 Tryz.f70 noL m_w_toKey Tryz.func70 (by kernel_rfl) (Loops.none (by kernel_rfl)) fun ds out _ hr => by obtain ⟨a, ⟨⟩⟩ := ds; exact (ev_w_toKey a).trans ((q_w_toKey a).trans hr)

def E_w_toKeyS : Tabs := (mkE tab [(70, m_w_toKey)] [])
set_option maxRecDepth 4000 in
theorem ek_w_toKeyS : EnvOK Tryz.prog E_w_toKeyS := (mkE_ok tab_ok mixed (AllF.cons ok_w_toKey AllF.nil) AllX.nil)
def lm_L_w_toKeyS_1 : LM := { mat := [], head := { slots := [(0, .dat false (.slice tKey)), (3, .cst (.sl (.row 0))), (4, .dat false (.int .i64))], blks := [.row false tKey] }, out := { slots := [(3, .cst (.sl (.row 0)))], blks := [.row false tKey] }, ex := 0, rets := false, run := iter L_w_toKeyS_1 fuel }
def ll_w_toKeyS : List (Nat × LP) := [(3, .lm lm_L_w_toKeyS_1)]
theorem rd_L_w_toKeyS_1 (rec' : ((List dKey) × Int × Unit) × ((List dKey) × Unit) → Option ((Unit) × ((List dKey) × Unit))) (a : (List dKey)) (i : Int) (r0 : (List dKey)) : round E_w_toKeyS (lookL ll_w_toKeyS) lm_L_w_toKeyS_1 23 (loopAt Tryz.f58 0) rec' ((a, i, ()), (r0, ())) = L_w_toKeyS_1 rec' ((a, i, ()), (r0, ())) := by kernel_rfl
theorem lo_w_toKeyS : Loops E_w_toKeyS (lookL ll_w_toKeyS) Tryz.f58 := Loops.list (by kernel_rfl) (by kernel_rfl) ⟨LoopOK.iter (step := L_w_toKeyS_1) (N := fun _ => fuel) (fun rec' x => by obtain ⟨⟨a, i, ⟨⟩⟩, ⟨r0, ⟨⟩⟩⟩ := x; exact rd_L_w_toKeyS_1 rec' a i r0) fun _ => rfl, trivial⟩
theorem ev_w_toKeyS (a : (List dKey)) : evalF E_w_toKeyS (lookL ll_w_toKeyS) Tryz.f58 [.ro false (.slice tKey)] (.one false (.slice tKey)) (a, ()) = g_w_toKeyS a := by kernel_rfl
def m_w_toKeyS : FM := { ps := [.ro false (.slice tKey)], res := .one false (.slice tKey), run := fun x => g_w_toKeyS x.1 }
set_option maxRecDepth 4000 in
theorem ok_w_toKeyS : FmOK Tryz.prog 58 m_w_toKeyS := @FmOK.made Tryz.prog E_w_toKeyS ek_w_toKeyS 58 Tryz.f58 (lookL ll_w_toKeyS) m_w_toKeyS Tryz.func58 (by kernel_rfl) lo_w_toKeyS fun ds out _ hr => by obtain ⟨a, ⟨⟩⟩ := ds; exact (ev_w_toKeyS a).trans hr

def E_w_toKeySS : Tabs := (mkE tab [(58, m_w_toKeyS)] [])
set_option maxRecDepth 4000 in
theorem ek_w_toKeySS : EnvOK Tryz.prog E_w_toKeySS := (mkE_ok tab_ok mixed (AllF.cons ok_w_toKeyS AllF.nil) AllX.nil)
def lm_L_w_toKeySS_1 : LM := { mat := [], head := { slots := [(0, .dat false (.slice (.slice tKey))), (3, .cst (.sl (.row 0))), (4, .dat false (.int .i64))], blks := [.row false (.slice tKey)] }, out := { slots := [(3, .cst (.sl (.row 0)))], blks := [.row false (.slice tKey)] }, ex := 0, rets := false, run := iter L_w_toKeySS_1 fuel }
def ll_w_toKeySS : List (Nat × LP) := [(3, .lm lm_L_w_toKeySS_1)]
theorem rd_L_w_toKeySS_1 (rec' : ((List (List dKey)) × Int × Unit) × ((List (List dKey)) × Unit) → Option ((Unit) × ((List (List dKey)) × Unit))) (a : (List (List dKey))) (i : Int) (r0 : (List (List dKey))) : round E_w_toKeySS (lookL ll_w_toKeySS) lm_L_w_toKeySS_1 23 (loopAt Tryz.f46 0) rec' ((a, i, ()), (r0, ())) = L_w_toKeySS_1 rec' ((a, i, ()), (r0, ())) := by kernel_rfl
theorem lo_w_toKeySS : Loops E_w_toKeySS (lookL ll_w_toKeySS) Tryz.f46 := Loops.list (by kernel_rfl) (by kernel_rfl) ⟨LoopOK.iter (step := L_w_toKeySS_1) (N := fun _ => fuel) (fun rec' x => by obtain ⟨⟨a, i, ⟨⟩⟩, ⟨r0, ⟨⟩⟩⟩ := x; exact rd_L_w_toKeySS_1 rec' a i r0) fun _ => rfl, trivial⟩
theorem ev_w_toKeySS (a : (List (List dKey))) : evalF E_w_toKeySS (lookL ll_w_toKeySS) Tryz.f46 [.ro false (.slice (.slice tKey))] (.one false (.slice (.slice tKey))) (a, ()) = g_w_toKeySS a := by kernel_rfl
def m_w_toKeySS : FM := { ps := [.ro false (.slice (.slice tKey))], res := .one false (.slice (.slice tKey)), run := fun x => g_w_toKeySS x.1 }
set_option maxRecDepth 4000 in
theorem ok_w_toKeySS : FmOK Tryz.prog 46 m_w_toKeySS := @FmOK.made Tryz.prog E_w_toKeySS ek_w_toKeySS 46 Tryz.f46 (lookL ll_w_toKeySS) m_w_toKeySS Tryz.func46 (by kernel_rfl) lo_w_toKeySS fun ds out _ hr => by obtain ⟨a, ⟨⟩⟩ := ds; exact (ev_w_toKeySS a).trans hr

def E_w_toVector : Tabs := (mkE tab [] [])
set_option maxRecDepth 4000 in
theorem ek_w_toVector : EnvOK Tryz.prog E_w_toVector := (mkE_ok tab_ok mixed AllF.nil AllX.nil)
theorem ev_w_toVector (a : dVec) : evalF E_w_toVector noL Tryz.f71 [.ro true tVec] (.one true tVec) (a, ()) = g_w_toVector a := by kernel_rfl
def m_w_toVector : FM := { ps := [.ro true tVec], res := .one true tVec, run := fun x => some (t_w_toVector x.1) }
set_option maxRecDepth 4000 in
theorem ok_w_toVector : FmOK Tryz.prog 71 m_w_toVector := @FmOK.made Tryz.prog E_w_toVector ek_w_toVector 71 Tryz.f71 noL m_w_toVector Tryz.func71 (by kernel_rfl) (Loops.none (by kernel_rfl)) fun ds out _ hr => by obtain ⟨a, ⟨⟩⟩ := ds; exact (ev_w_toVector a).trans ((q_w_toVector a).trans hr)

def E_w_toRootKey : Tabs := (mkE tab [(71, m_w_toVector)] [])
set_option maxRecDepth 4000 in
theorem ek_w_toRootKey : EnvOK Tryz.prog E_w_toRootKey := (mkE_ok tab_ok mixed (AllF.cons ok_w_toVector AllF.nil) AllX.nil)
theorem ev_w_toRootKey (a : dRootKey) : evalF E_w_toRootKey noL Tryz.f59 [.ro true tRootKey] (.one true tRootKey) (a, ()) = g_w_toRootKey a := by kernel_rfl
def m_w_toRootKey : FM := { ps := [.ro true tRootKey], res := .one true tRootKey, run := fun x => some (t_w_toRootKey x.1) }
set_option maxRecDepth 4000 in
theorem ok_w_toRootKey : FmOK Tryz.prog 59 m_w_toRootKey := @FmOK.made Tryz.prog E_w_toRootKey ek_w_toRootKey 59 Tryz.f59 noL m_w_toRootKey Tryz.func59 (by kernel_rfl) (Loops.none (by kernel_rfl)) fun ds out _ hr => by obtain ⟨a, ⟨⟩⟩ := ds; exact (ev_w_toRootKey a).trans ((q_w_toRootKey a).trans hr)

def E_w_toRootKeyS : Tabs := (mkE tab [(59, m_w_toRootKey)] [])
set_option maxRecDepth 4000 in
theorem ek_w_toRootKeyS : EnvOK Tryz.prog E_w_toRootKeyS := (mkE_ok tab_ok mixed (AllF.cons ok_w_toRootKey AllF.nil) AllX.nil)
def lm_L_w_toRootKeyS_1 : LM := { mat := [], head := { slots := [(0, .dat false (.slice tRootKey)), (3, .cst (.sl (.row 0))), (4, .dat false (.int .i64))], blks := [.row false tRootKey] }, out := { slots := [(3, .cst (.sl (.row 0)))], blks := [.row false tRootKey] }, ex := 0, rets := false, run := iter L_w_toRootKeyS_1 fuel }
def ll_w_toRootKeyS : List (Nat × LP) := [(3, .lm lm_L_w_toRootKeyS_1)]
theorem rd_L_w_toRootKeyS_1 (rec' : ((List dRootKey) × Int × Unit) × ((List dRootKey) × Unit) → Option ((Unit) × ((List dRootKey) × Unit))) (a : (List dRootKey)) (i : Int) (r0 : (List dRootKey)) : round E_w_toRootKeyS (lookL ll_w_toRootKeyS) lm_L_w_toRootKeyS_1 23 (loopAt Tryz.f47 0) rec' ((a, i, ()), (r0, ())) = L_w_toRootKeyS_1 rec' ((a, i, ()), (r0, ())) := by kernel_rfl
theorem lo_w_toRootKeyS : Loops E_w_toRootKeyS (lookL ll_w_toRootKeyS) Tryz.f47 := Loops.list (by kernel_rfl) (by kernel_rfl) ⟨LoopOK.iter (step := L_w_toRootKeyS_1) (N := fun _ => fuel) (fun rec' x => by obtain ⟨⟨a, i, ⟨⟩⟩, ⟨r0, ⟨⟩⟩⟩ := x; exact rd_L_w_toRootKeyS_1 rec' a i r0) fun _ => rfl, trivial⟩
theorem ev_w_toRootKeyS (a : (List dRootKey)) : evalF E_w_toRootKeyS (lookL ll_w_toRootKeyS) Tryz.f47 [.ro false (.slice tRootKey)] (.one false (.slice tRootKey)) (a, ()) = g_w_toRootKeyS a := by kernel_rfl
def m_w_toRootKeyS : FM := { ps := [.ro false (.slice tRootKey)], res := .one false (.slice tRootKey), run := fun x => g_w_toRootKeyS x.1 }
set_option maxRecDepth 4000 in
theorem ok_w_toRootKeyS : FmOK Tryz.prog 47 m_w_toRootKeyS := @FmOK.made Tryz.prog E_w_toRootKeyS ek_w_toRootKeyS 47 Tryz.f47 (lookL ll_w_toRootKeyS) m_w_toRootKeyS Tryz.func47 (by kernel_rfl) lo_w_toRootKeyS fun ds out _ hr => by obtain ⟨a, ⟨⟩⟩ := ds; exact (ev_w_toRootKeyS a).trans hr

def E_w_toClip : Tabs := (mkE tab [(46, m_w_toKeySS), (47, m_w_toRootKeyS)] [])
set_option maxRecDepth 4000 in
theorem ek_w_toClip : EnvOK Tryz.prog E_w_toClip := (mkE_ok tab_ok mixed (AllF.cons ok_w_toKeySS (AllF.cons ok_w_toRootKeyS AllF.nil)) AllX.nil)
theorem ev_w_toClip (a : dClip) : evalF E_w_toClip noL Tryz.f29 [.ro true tClip] (.one true tClip) (a, ()) = g_w_toClip a := by kernel_rfl
def m_w_toClip : FM := { ps := [.ro true tClip], res := .one true tClip, run := fun x => g_w_toClip x.1 }
set_option maxRecDepth 4000 in
theorem ok_w_toClip : FmOK Tryz.prog 29 m_w_toClip := @FmOK.made Tryz.prog E_w_toClip ek_w_toClip 29 Tryz.f29 noL m_w_toClip Tryz.func29 (by kernel_rfl) (Loops.none (by kernel_rfl)) fun ds out _ hr => by obtain ⟨a, ⟨⟩⟩ := ds; exact (ev_w_toClip a).trans hr

def E_w_toClipS : Tabs := (mkE tab [(29, m_w_toClip)] [])
set_option maxRecDepth 4000 in
theorem ek_w_toClipS : EnvOK Tryz.prog E_w_toClipS := (mkE_ok tab_ok mixed (AllF.cons ok_w_toClip AllF.nil) AllX.nil)
def lm_L_w_toClipS_1 : LM := { mat := [], head := { slots := [(0, .dat false (.slice tClip)), (3, .cst (.sl (.row 0))), (4, .dat false (.int .i64))], blks := [.row false tClip] }, out := { slots := [(3, .cst (.sl (.row 0)))], blks := [.row false tClip] }, ex := 0, rets := false, run := iter L_w_toClipS_1 fuel }
def ll_w_toClipS : List (Nat × LP) := [(3, .lm lm_L_w_toClipS_1)]
theorem rd_L_w_toClipS_1 (rec' : ((List dClip) × Int × Unit) × ((List dClip) × Unit) → Option ((Unit) × ((List dClip) × Unit))) (a : (List dClip)) (i : Int) (r0 : (List dClip)) : round E_w_toClipS (lookL ll_w_toClipS) lm_L_w_toClipS_1 23 (loopAt Tryz.f16 0) rec' ((a, i, ()), (r0, ())) = L_w_toClipS_1 rec' ((a, i, ()), (r0, ())) := by kernel_rfl
theorem lo_w_toClipS : Loops E_w_toClipS (lookL ll_w_toClipS) Tryz.f16 := Loops.list (by kernel_rfl) (by kernel_rfl) ⟨LoopOK.iter (step := L_w_toClipS_1) (N := fun _ => fuel) (fun rec' x => by obtain ⟨⟨a, i, ⟨⟩⟩, ⟨r0, ⟨⟩⟩⟩ := x; exact rd_L_w_toClipS_1 rec' a i r0) fun _ => rfl, trivial⟩
theorem ev_w_toClipS (a : (List dClip)) : evalF E_w_toClipS (lookL ll_w_toClipS) Tryz.f16 [.ro false (.slice tClip)] (.one false (.slice tClip)) (a, ()) = g_w_toClipS a := by kernel_rfl
def m_w_toClipS : FM := { ps := [.ro false (.slice tClip)], res := .one false (.slice tClip), run := fun x => g_w_toClipS x.1 }
set_option maxRecDepth 4000 in
theorem ok_w_toClipS : FmOK Tryz.prog 16 m_w_toClipS := @FmOK.made Tryz.prog E_w_toClipS ek_w_toClipS 16 Tryz.f16 (lookL ll_w_toClipS) m_w_toClipS Tryz.func16 (by kernel_rfl) lo_w_toClipS fun ds out _ hr => by obtain ⟨a, ⟨⟩⟩ := ds; exact (ev_w_toClipS a).trans hr

def E_w_toState : Tabs := (mkE tab [] [])
set_option maxRecDepth 4000 in
theorem ek_w_toState : EnvOK Tryz.prog E_w_toState := (mkE_ok tab_ok mixed AllF.nil AllX.nil)
theorem ev_w_toState (a : dState) : evalF E_w_toState noL Tryz.f30 [.ro true tState] (.one true tState) (a, ()) = g_w_toState a := by kernel_rfl
def m_w_toState : FM := { ps := [.ro true tState], res := .one true tState, run := fun x => some (t_w_toState x.1) }
set_option maxRecDepth 4000 in
theorem ok_w_toState : FmOK Tryz.prog 30 m_w_toState := @FmOK.made Tryz.prog E_w_toState ek_w_toState 30 Tryz.f30 noL m_w_toState Tryz.func30 (by kernel_rfl) (Loops.none (by kernel_rfl)) fun ds out _ hr => by obtain ⟨a, ⟨⟩⟩ := ds; exact (ev_w_toState a).trans ((q_w_toState a).trans hr)

def E_w_toStateS : Tabs := (mkE tab [(30, m_w_toState)] [])
set_option maxRecDepth 4000 in
theorem ek_w_toStateS : EnvOK Tryz.prog E_w_toStateS := (mkE_ok tab_ok mixed (AllF.cons ok_w_toState AllF.nil) AllX.nil)
def lm_L_w_toStateS_1 : LM := { mat := [], head := { slots := [(0, .dat false (.slice tState)), (3, .cst (.sl (.row 0))), (4, .dat false (.int .i64))], blks := [.row false tState] }, out := { slots := [(3, .cst (.sl (.row 0)))], blks := [.row false tState] }, ex := 0, rets := false, run := iter L_w_toStateS_1 fuel }
def ll_w_toStateS : List (Nat × LP) := [(3, .lm lm_L_w_toStateS_1)]
theorem rd_L_w_toStateS_1 (rec' : ((List dState) × Int × Unit) × ((List dState) × Unit) → Option ((Unit) × ((List dState) × Unit))) (a : (List dState)) (i : Int) (r0 : (List dState)) : round E_w_toStateS (lookL ll_w_toStateS) lm_L_w_toStateS_1 23 (loopAt Tryz.f17 0) rec' ((a, i, ()), (r0, ())) = L_w_toStateS_1 rec' ((a, i, ()), (r0, ())) := by kernel_rfl
theorem lo_w_toStateS : Loops E_w_toStateS (lookL ll_w_toStateS) Tryz.f17 := Loops.list (by kernel_rfl) (by kernel_rfl) ⟨LoopOK.iter (step := L_w_toStateS_1) (N := fun _ => fuel) (fun rec' x => by obtain ⟨⟨a, i, ⟨⟩⟩, ⟨r0, ⟨⟩⟩⟩ := x; exact rd_L_w_toStateS_1 rec' a i r0) fun _ => rfl, trivial⟩
theorem ev_w_toStateS (a : (List dState)) : evalF E_w_toStateS (lookL ll_w_toStateS) Tryz.f17 [.ro false (.slice tState)] (.one false (.slice tState)) (a, ()) = g_w_toStateS a := by kernel_rfl
def m_w_toStateS : FM := { ps := [.ro false (.slice tState)], res := .one false (.slice tState), run := fun x => g_w_toStateS x.1 }
set_option maxRecDepth 4000 in
theorem ok_w_toStateS : FmOK Tryz.prog 17 m_w_toStateS := @FmOK.made Tryz.prog E_w_toStateS ek_w_toStateS 17 Tryz.f17 (lookL ll_w_toStateS) m_w_toStateS Tryz.func17 (by kernel_rfl) lo_w_toStateS fun ds out _ hr => by obtain ⟨a, ⟨⟩⟩ := ds; exact (ev_w_toStateS a).trans hr

def E_w_toRule : Tabs := (mkE tab [] [])
set_option maxRecDepth 4000 in
theorem ek_w_toRule : EnvOK Tryz.prog E_w_toRule := (mkE_ok tab_ok mixed AllF.nil AllX.nil)
theorem ev_w_toRule (a : dRule) : evalF E_w_toRule noL Tryz.f31 [.ro true tRule] (.one true tRule) (a, ()) = g_w_toRule a := by kernel_rfl
def m_w_toRule : FM := { ps := [.ro true tRule], res := .one true tRule, run := fun x => some (t_w_toRule x.1) }
set_option maxRecDepth 4000 in
theorem ok_w_toRule : FmOK Tryz.prog 31 m_w_toRule := @FmOK.made Tryz.prog E_w_toRule ek_w_toRule 31 Tryz.f31 noL m_w_toRule Tryz.func31 (by kernel_rfl) (Loops.none (by kernel_rfl)) fun ds out _ hr => by obtain ⟨a, ⟨⟩⟩ := ds; exact (ev_w_toRule a).trans ((q_w_toRule a).trans hr)

def E_w_toRuleS : Tabs := (mkE tab [(31, m_w_toRule)] [])
set_option maxRecDepth 4000 in
theorem ek_w_toRuleS : EnvOK Tryz.prog E_w_toRuleS := (mkE_ok tab_ok mixed (AllF.cons ok_w_toRule AllF.nil) AllX.nil)
def lm_L_w_toRuleS_1 : LM := { mat := [], head := { slots := [(0, .dat false (.slice tRule)), (3, .cst (.sl (.row 0))), (4, .dat false (.int .i64))], blks := [.row false tRule] }, out := { slots := [(3, .cst (.sl (.row 0)))], blks := [.row false tRule] }, ex := 0, rets := false, run := iter L_w_toRuleS_1 fuel }
def ll_w_toRuleS : List (Nat × LP) := [(3, .lm lm_L_w_toRuleS_1)]
theorem rd_L_w_toRuleS_1 (rec' : ((List dRule) × Int × Unit) × ((List dRule) × Unit) → Option ((Unit) × ((List dRule) × Unit))) (a : (List dRule)) (i : Int) (r0 : (List dRule)) : round E_w_toRuleS (lookL ll_w_toRuleS) lm_L_w_toRuleS_1 23 (loopAt Tryz.f18 0) rec' ((a, i, ()), (r0, ())) = L_w_toRuleS_1 rec' ((a, i, ()), (r0, ())) := by kernel_rfl
theorem lo_w_toRuleS : Loops E_w_toRuleS (lookL ll_w_toRuleS) Tryz.f18 := Loops.list (by kernel_rfl) (by kernel_rfl) ⟨LoopOK.iter (step := L_w_toRuleS_1) (N := fun _ => fuel) (fun rec' x => by obtain ⟨⟨a, i, ⟨⟩⟩, ⟨r0, ⟨⟩⟩⟩ := x; exact rd_L_w_toRuleS_1 rec' a i r0) fun _ => rfl, trivial⟩
theorem ev_w_toRuleS (a : (List dRule)) : evalF E_w_toRuleS (lookL ll_w_toRuleS) Tryz.f18 [.ro false (.slice tRule)] (.one false (.slice tRule)) (a, ()) = g_w_toRuleS a := by kernel_rfl
def m_w_toRuleS : FM := { ps := [.ro false (.slice tRule)], res := .one false (.slice tRule), run := fun x => g_w_toRuleS x.1 }
set_option maxRecDepth 4000 in
theorem ok_w_toRuleS : FmOK Tryz.prog 18 m_w_toRuleS := @FmOK.made Tryz.prog E_w_toRuleS ek_w_toRuleS 18 Tryz.f18 (lookL ll_w_toRuleS) m_w_toRuleS Tryz.func18 (by kernel_rfl) lo_w_toRuleS fun ds out _ hr => by obtain ⟨a, ⟨⟩⟩ := ds; exact (ev_w_toRuleS a).trans hr

def E_w_toMachine : Tabs := (mkE tab [(16, m_w_toClipS), (17, m_w_toStateS), (18, m_w_toRuleS)] [])
set_option maxRecDepth 4000 in
theorem ek_w_toMachine : EnvOK Tryz.prog E_w_toMachine := (mkE_ok tab_ok mixed (AllF.cons ok_w_toClipS (AllF.cons ok_w_toStateS (AllF.cons ok_w_toRuleS AllF.nil))) AllX.nil)
theorem ev_w_toMachine (a : dMachine) : evalF E_w_toMachine noL Tryz.f6 [.ro true tMachine] (.one true tMachine) (a, ()) = g_w_toMachine a := by kernel_rfl
def m_w_toMachine : FM := { ps := [.ro true tMachine], res := .one true tMachine, run := fun x => g_w_toMachine x.1 }
set_option maxRecDepth 4000 in
theorem ok_w_toMachine : FmOK Tryz.prog 6 m_w_toMachine := @FmOK.made Tryz.prog E_w_toMachine ek_w_toMachine 6 Tryz.f6 noL m_w_toMachine Tryz.func6 (by kernel_rfl) (Loops.none (by kernel_rfl)) fun ds out _ hr => by obtain ⟨a, ⟨⟩⟩ := ds; exact (ev_w_toMachine a).trans hr

def E_w_toRun : Tabs := (mkE tab [] [])
set_option maxRecDepth 4000 in
theorem ek_w_toRun : EnvOK Tryz.prog E_w_toRun := (mkE_ok tab_ok mixed AllF.nil AllX.nil)
theorem ev_w_toRun (a : dRun) : evalF E_w_toRun noL Tryz.f7 [.ro true tRun] (.one true tRun) (a, ()) = g_w_toRun a := by kernel_rfl
def m_w_toRun : FM := { ps := [.ro true tRun], res := .one true tRun, run := fun x => some (t_w_toRun x.1) }
set_option maxRecDepth 4000 in
theorem ok_w_toRun : FmOK Tryz.prog 7 m_w_toRun := @FmOK.made Tryz.prog E_w_toRun ek_w_toRun 7 Tryz.f7 noL m_w_toRun Tryz.func7 (by kernel_rfl) (Loops.none (by kernel_rfl)) fun ds out _ hr => by obtain ⟨a, ⟨⟩⟩ := ds; exact (ev_w_toRun a).trans ((q_w_toRun a).trans hr)

def E_s_l00In : Tabs := (mkE tab [] [])
set_option maxRecDepth 4000 in
theorem ek_s_l00In : EnvOK Tryz.prog E_s_l00In := (mkE_ok tab_ok mixed AllF.nil AllX.nil)
theorem ev_s_l00In (n : Int) (low : Int) (high : Int) : evalF E_s_l00In noL Tryz.f25 [.ro false (.int .i64), .ro false (.int .i64), .ro false (.int .i64)] (.one false .bool) (n, low, high, ()) = g_s_l00In n low high := by kernel_rfl
def m_s_l00In : FM := { ps := [.ro false (.int .i64), .ro false (.int .i64), .ro false (.int .i64)], res := .one false .bool, run := fun x => some (t_s_l00In x.1 x.2.1 x.2.2.1) }
set_option maxRecDepth 4000 in
theorem ok_s_l00In : FmOK Tryz.prog 25 m_s_l00In := @FmOK.made Tryz.prog E_s_l00In ek_s_l00In 25 Tryz.f25 noL m_s_l00In Tryz.func25 (by kernel_rfl) (Loops.none (by kernel_rfl)) fun ds out _ hr => by obtain ⟨n, low, high, ⟨⟩⟩ := ds; exact (ev_s_l00In n low high).trans ((q_s_l00In n low high).trans hr)

def E_s_l05At : Tabs := (mkE tab [] [])
set_option maxRecDepth 4000 in
theorem ek_s_l05At : EnvOK Tryz.prog E_s_l05At := (mkE_ok tab_ok mixed AllF.nil AllX.nil)
def lm_L_s_l05At_1 : LM := { mat := [], head := { slots := [(0, .dat false (.slice tKey)), (3, .cst (.sl (.row 0))), (7, .dat false (.int .i64)), (8, .dat false (.int .i64))], blks := [.row false (.int .i64)] }, out := { slots := [(3, .cst (.sl (.row 0)))], blks := [.row false (.int .i64)] }, ex := 0, rets := false, run := iter L_s_l05At_1 fuel }
def ll_s_l05At : List (Nat × LP) := [(3, .lm lm_L_s_l05At_1)]
theorem rd_L_s_l05At_1 (rec' : ((List dKey) × Int × Int × Unit) × ((List Int) × Unit) → Option ((Unit) × ((List Int) × Unit))) (track : (List dKey)) (t7 : Int) (t8 : Int) (r0 : (List Int)) : round E_s_l05At (lookL ll_s_l05At) lm_L_s_l05At_1 21 (loopAt Tryz.f42 0) rec' ((track, t7, t8, ()), (r0, ())) = L_s_l05At_1 rec' ((track, t7, t8, ()), (r0, ())) := by kernel_rfl
theorem lo_s_l05At : Loops E_s_l05At (lookL ll_s_l05At) Tryz.f42 := Loops.list (by kernel_rfl) (by kernel_rfl) ⟨LoopOK.iter (step := L_s_l05At_1) (N := fun _ => fuel) (fun rec' x => by obtain ⟨⟨track, t7, t8, ⟨⟩⟩, ⟨r0, ⟨⟩⟩⟩ := x; exact rd_L_s_l05At_1 rec' track t7 t8 r0) fun _ => rfl, trivial⟩
theorem ev_s_l05At (track : (List dKey)) : evalF E_s_l05At (lookL ll_s_l05At) Tryz.f42 [.ro false (.slice tKey)] (.one false (.slice (.int .i64))) (track, ()) = g_s_l05At track := by kernel_rfl
def m_s_l05At : FM := { ps := [.ro false (.slice tKey)], res := .one false (.slice (.int .i64)), run := fun x => g_s_l05At x.1 }
set_option maxRecDepth 4000 in
theorem ok_s_l05At : FmOK Tryz.prog 42 m_s_l05At := @FmOK.made Tryz.prog E_s_l05At ek_s_l05At 42 Tryz.f42 (lookL ll_s_l05At) m_s_l05At Tryz.func42 (by kernel_rfl) lo_s_l05At fun ds out _ hr => by obtain ⟨track, ⟨⟩⟩ := ds; exact (ev_s_l05At track).trans hr

def E_s_l05Times : Tabs := (mkE tab [(25, m_s_l00In)] [])
set_option maxRecDepth 4000 in
theorem ek_s_l05Times : EnvOK Tryz.prog E_s_l05Times := (mkE_ok tab_ok mixed (AllF.cons ok_s_l00In AllF.nil) AllX.nil)
def lm_L_s_l05Times_1 : LM := { mat := [], head := { slots := [(0, .dat false (.slice (.int .i64))), (1, .dat false (.int .i64)), (4, .dat false .bool), (7, .dat false (.int .i64)), (8, .dat false (.int .i64))], blks := [] }, out := { slots := [(0, .dat false (.slice (.int .i64))), (4, .dat false .bool)], blks := [] }, ex := 0, rets := true, run := iter L_s_l05Times_1 fuel }
def ll_s_l05Times : List (Nat × LP) := [(2, .lm lm_L_s_l05Times_1)]
theorem rd_L_s_l05Times_1 (rec' : ((List Int) × Int × Bool × Int × Int × Unit) × (Unit) → Option (Bool × (((List Int) × Bool × Unit) × (Unit)))) (list : (List Int)) (length : Int) (t4 : Bool) (t7 : Int) (t8 : Int) : round E_s_l05Times (lookL ll_s_l05Times) lm_L_s_l05Times_1 43 (loopAt Tryz.f41 0) rec' ((list, length, t4, t7, t8, ()), (())) = L_s_l05Times_1 rec' ((list, length, t4, t7, t8, ()), (())) := by kernel_rfl
theorem lo_s_l05Times : Loops E_s_l05Times (lookL ll_s_l05Times) Tryz.f41 := Loops.list (by kernel_rfl) (by kernel_rfl) ⟨LoopOK.iter (step := L_s_l05Times_1) (N := fun _ => fuel) (fun rec' x => by obtain ⟨⟨list, length, t4, t7, t8, ⟨⟩⟩, ⟨⟨⟩⟩⟩ := x; exact rd_L_s_l05Times_1 rec' list length t4 t7 t8) fun _ => rfl, trivial⟩
theorem ev_s_l05Times (list : (List Int)) (length : Int) : evalF E_s_l05Times (lookL ll_s_l05Times) Tryz.f41 [.ro false (.slice (.int .i64)), .ro false (.int .i64)] (.one false .bool) (list, length, ()) = g_s_l05Times list length := by kernel_rfl
def m_s_l05Times : FM := { ps := [.ro false (.slice (.int .i64)), .ro false (.int .i64)], res := .one false .bool, run := fun x => g_s_l05Times x.1 x.2.1 }
set_option maxRecDepth 4000 in
theorem ok_s_l05Times : FmOK Tryz.prog 41 m_s_l05Times := @FmOK.made Tryz.prog E_s_l05Times ek_s_l05Times 41 Tryz.f41 (lookL ll_s_l05Times) m_s_l05Times Tryz.func41 (by kernel_rfl) lo_s_l05Times fun ds out _ hr => by obtain ⟨list, length, ⟨⟩⟩ := ds; exact (ev_s_l05Times list length).trans hr

def E_s_l05RootAt : Tabs := (mkE tab [] [])
set_option maxRecDepth 4000 in
theorem ek_s_l05RootAt : EnvOK Tryz.prog E_s_l05RootAt := (mkE_ok tab_ok mixed AllF.nil AllX.nil)
def lm_L_s_l05RootAt_1 : LM := { mat := [], head := { slots := [(0, .dat false (.slice tRootKey)), (3, .cst (.sl (.row 0))), (7, .dat false (.int .i64)), (8, .dat false (.int .i64))], blks := [.row false (.int .i64)] }, out := { slots := [(3, .cst (.sl (.row 0)))], blks := [.row false (.int .i64)] }, ex := 0, rets := false, run := iter L_s_l05RootAt_1 fuel }
def ll_s_l05RootAt : List (Nat × LP) := [(3, .lm lm_L_s_l05RootAt_1)]
theorem rd_L_s_l05RootAt_1 (rec' : ((List dRootKey) × Int × Int × Unit) × ((List Int) × Unit) → Option ((Unit) × ((List Int) × Unit))) (roots : (List dRootKey)) (t7 : Int) (t8 : Int) (r0 : (List Int)) : round E_s_l05RootAt (lookL ll_s_l05RootAt) lm_L_s_l05RootAt_1 21 (loopAt Tryz.f43 0) rec' ((roots, t7, t8, ()), (r0, ())) = L_s_l05RootAt_1 rec' ((roots, t7, t8, ()), (r0, ())) := by kernel_rfl
theorem lo_s_l05RootAt : Loops E_s_l05RootAt (lookL ll_s_l05RootAt) Tryz.f43 := Loops.list (by kernel_rfl) (by kernel_rfl) ⟨LoopOK.iter (step := L_s_l05RootAt_1) (N := fun _ => fuel) (fun rec' x => by obtain ⟨⟨roots, t7, t8, ⟨⟩⟩, ⟨r0, ⟨⟩⟩⟩ := x; exact rd_L_s_l05RootAt_1 rec' roots t7 t8 r0) fun _ => rfl, trivial⟩
theorem ev_s_l05RootAt (roots : (List dRootKey)) : evalF E_s_l05RootAt (lookL ll_s_l05RootAt) Tryz.f43 [.ro false (.slice tRootKey)] (.one false (.slice (.int .i64))) (roots, ()) = g_s_l05RootAt roots := by kernel_rfl
def m_s_l05RootAt : FM := { ps := [.ro false (.slice tRootKey)], res := .one false (.slice (.int .i64)), run := fun x => g_s_l05RootAt x.1 }
set_option maxRecDepth 4000 in
theorem ok_s_l05RootAt : FmOK Tryz.prog 43 m_s_l05RootAt := @FmOK.made Tryz.prog E_s_l05RootAt ek_s_l05RootAt 43 Tryz.f43 (lookL ll_s_l05RootAt) m_s_l05RootAt Tryz.func43 (by kernel_rfl) lo_s_l05RootAt fun ds out _ hr => by obtain ⟨roots, ⟨⟩⟩ := ds; exact (ev_s_l05RootAt roots).trans hr

def E_s_l05Is : Tabs := (mkE tab [(25, m_s_l00In), (42, m_s_l05At), (41, m_s_l05Times), (43, m_s_l05RootAt)] [])
set_option maxRecDepth 4000 in
theorem ek_s_l05Is : EnvOK Tryz.prog E_s_l05Is := (mkE_ok tab_ok mixed (AllF.cons ok_s_l00In (AllF.cons ok_s_l05At (AllF.cons ok_s_l05Times (AllF.cons ok_s_l05RootAt AllF.nil)))) AllX.nil)
def lm_L_s_l05Is_1 : LM := { mat := [], head := { slots := [(0, .dat false (.ref tClip)), (2, .dat false .bool), (38, .dat false (.int .i64)), (39, .dat false (.int .i64))], blks := [] }, out := { slots := [(0, .dat false (.ref tClip)), (2, .dat false .bool)], blks := [] }, ex := 0, rets := true, run := iter L_s_l05Is_1 fuel }
def ll_s_l05Is : List (Nat × LP) := [(4, .lm lm_L_s_l05Is_1)]
theorem rd_L_s_l05Is_1 (rec' : (dClip × Bool × Int × Int × Unit) × (Unit) → Option (Bool × ((dClip × Bool × Unit) × (Unit)))) (c : dClip) (t2 : Bool) (t38 : Int) (t39 : Int) : round E_s_l05Is (lookL ll_s_l05Is) lm_L_s_l05Is_1 67 (loopAt Tryz.f26 0) rec' ((c, t2, t38, t39, ()), (())) = L_s_l05Is_1 rec' ((c, t2, t38, t39, ()), (())) := by kernel_rfl
theorem lo_s_l05Is : Loops E_s_l05Is (lookL ll_s_l05Is) Tryz.f26 := Loops.list (by kernel_rfl) (by kernel_rfl) ⟨LoopOK.iter (step := L_s_l05Is_1) (N := fun _ => fuel) (fun rec' x => by obtain ⟨⟨c, t2, t38, t39, ⟨⟩⟩, ⟨⟨⟩⟩⟩ := x; exact rd_L_s_l05Is_1 rec' c t2 t38 t39) fun _ => rfl, trivial⟩
theorem ev_s_l05Is (c : dClip) : evalF E_s_l05Is (lookL ll_s_l05Is) Tryz.f26 [.rptr tClip] (.one false .bool) (c, ()) = g_s_l05Is c := by kernel_rfl
def m_s_l05Is : FM := { ps := [.rptr tClip], res := .one false .bool, run := fun x => g_s_l05Is x.1 }
set_option maxRecDepth 4000 in
theorem ok_s_l05Is : FmOK Tryz.prog 26 m_s_l05Is := @FmOK.made Tryz.prog E_s_l05Is ek_s_l05Is 26 Tryz.f26 (lookL ll_s_l05Is) m_s_l05Is Tryz.func26 (by kernel_rfl) lo_s_l05Is fun ds out _ hr => by obtain ⟨c, ⟨⟩⟩ := ds; exact (ev_s_l05Is c).trans hr

def E_s_l07Is : Tabs := (mkE tab [(25, m_s_l00In), (26, m_s_l05Is)] [])
set_option maxRecDepth 4000 in
theorem ek_s_l07Is : EnvOK Tryz.prog E_s_l07Is := (mkE_ok tab_ok mixed (AllF.cons ok_s_l00In (AllF.cons ok_s_l05Is AllF.nil)) AllX.nil)
def lm_L_s_l07Is_3 : LM := { mat := [], head := { slots := [(0, .dat false (.ref tMachine)), (2, .dat false .bool), (4, .dat false (.int .i64)), (109, .dat false (.int .i64)), (110, .dat false (.int .i64))], blks := [] }, out := { slots := [(2, .dat false .bool)], blks := [] }, ex := 4, rets := true, run := iter L_s_l07Is_3 fuel }
def lm_L_s_l07Is_2 : LM := { mat := [], head := { slots := [(0, .dat false (.ref tMachine)), (2, .dat false .bool), (3, .dat false (.int .i64)), (4, .dat false (.int .i64)), (76, .dat false (.int .i64)), (77, .dat false (.int .i64))], blks := [] }, out := { slots := [(0, .dat false (.ref tMachine)), (2, .dat false .bool), (4, .dat false (.int .i64))], blks := [] }, ex := 2, rets := true, run := iter L_s_l07Is_2 fuel }
def lm_L_s_l07Is_1 : LM := { mat := [], head := { slots := [(0, .dat false (.ref tMachine)), (2, .dat false .bool), (3, .dat false (.int .i64)), (4, .dat false (.int .i64)), (39, .dat false (.int .i64)), (40, .dat false (.int .i64))], blks := [] }, out := { slots := [(0, .dat false (.ref tMachine)), (2, .dat false .bool), (3, .dat false (.int .i64)), (4, .dat false (.int .i64))], blks := [] }, ex := 0, rets := true, run := iter L_s_l07Is_1 fuel }
def ll_s_l07Is : List (Nat × LP) := [(6, .lm lm_L_s_l07Is_1), (12, .lm lm_L_s_l07Is_2), (18, .lm lm_L_s_l07Is_3)]
theorem rd_L_s_l07Is_3 (rec' : (dMachine × Bool × Int × Int × Int × Unit) × (Unit) → Option (Bool × ((Bool × Unit) × (Unit)))) (m : dMachine) (t2 : Bool) (states : Int) (t109 : Int) (t110 : Int) : round E_s_l07Is (lookL ll_s_l07Is) lm_L_s_l07Is_3 160 (loopAt Tryz.f13 2) rec' ((m, t2, states, t109, t110, ()), (())) = L_s_l07Is_3 rec' ((m, t2, states, t109, t110, ()), (())) := by kernel_rfl
theorem rd_L_s_l07Is_2 (rec' : (dMachine × Bool × Int × Int × Int × Int × Unit) × (Unit) → Option (Bool × ((dMachine × Bool × Int × Unit) × (Unit)))) (m : dMachine) (t2 : Bool) (clips : Int) (states : Int) (t76 : Int) (t77 : Int) : round E_s_l07Is (lookL ll_s_l07Is) lm_L_s_l07Is_2 160 (loopAt Tryz.f13 1) rec' ((m, t2, clips, states, t76, t77, ()), (())) = L_s_l07Is_2 rec' ((m, t2, clips, states, t76, t77, ()), (())) := by kernel_rfl
theorem rd_L_s_l07Is_1 (rec' : (dMachine × Bool × Int × Int × Int × Int × Unit) × (Unit) → Option (Bool × ((dMachine × Bool × Int × Int × Unit) × (Unit)))) (m : dMachine) (t2 : Bool) (clips : Int) (states : Int) (t39 : Int) (t40 : Int) : round E_s_l07Is (lookL ll_s_l07Is) lm_L_s_l07Is_1 160 (loopAt Tryz.f13 0) rec' ((m, t2, clips, states, t39, t40, ()), (())) = L_s_l07Is_1 rec' ((m, t2, clips, states, t39, t40, ()), (())) := by kernel_rfl
theorem lo_s_l07Is : Loops E_s_l07Is (lookL ll_s_l07Is) Tryz.f13 := Loops.list (by kernel_rfl) (by kernel_rfl) ⟨LoopOK.iter (step := L_s_l07Is_1) (N := fun _ => fuel) (fun rec' x => by obtain ⟨⟨m, t2, clips, states, t39, t40, ⟨⟩⟩, ⟨⟨⟩⟩⟩ := x; exact rd_L_s_l07Is_1 rec' m t2 clips states t39 t40) fun _ => rfl, LoopOK.iter (step := L_s_l07Is_2) (N := fun _ => fuel) (fun rec' x => by obtain ⟨⟨m, t2, clips, states, t76, t77, ⟨⟩⟩, ⟨⟨⟩⟩⟩ := x; exact rd_L_s_l07Is_2 rec' m t2 clips states t76 t77) fun _ => rfl, LoopOK.iter (step := L_s_l07Is_3) (N := fun _ => fuel) (fun rec' x => by obtain ⟨⟨m, t2, states, t109, t110, ⟨⟩⟩, ⟨⟨⟩⟩⟩ := x; exact rd_L_s_l07Is_3 rec' m t2 states t109 t110) fun _ => rfl, trivial⟩
theorem ev_s_l07Is (m : dMachine) : evalF E_s_l07Is (lookL ll_s_l07Is) Tryz.f13 [.rptr tMachine] (.one false .bool) (m, ()) = g_s_l07Is m := by kernel_rfl
def m_s_l07Is : FM := { ps := [.rptr tMachine], res := .one false .bool, run := fun x => g_s_l07Is x.1 }
set_option maxRecDepth 4000 in
theorem ok_s_l07Is : FmOK Tryz.prog 13 m_s_l07Is := @FmOK.made Tryz.prog E_s_l07Is ek_s_l07Is 13 Tryz.f13 (lookL ll_s_l07Is) m_s_l07Is Tryz.func13 (by kernel_rfl) lo_s_l07Is fun ds out _ hr => by obtain ⟨m, ⟨⟩⟩ := ds; exact (ev_s_l07Is m).trans hr

def E_s_l07Length : Tabs := (mkE tab [] [])
set_option maxRecDepth 4000 in
theorem ek_s_l07Length : EnvOK Tryz.prog E_s_l07Length := (mkE_ok tab_ok mixed AllF.nil AllX.nil)
theorem ev_s_l07Length (m : dMachine) (state : Int) : evalF E_s_l07Length noL Tryz.f44 [.rptr tMachine, .ro false (.int .i64)] (.one false (.int .i64)) (m, state, ()) = g_s_l07Length m state := by kernel_rfl
def m_s_l07Length : FM := { ps := [.rptr tMachine, .ro false (.int .i64)], res := .one false (.int .i64), run := fun x => g_s_l07Length x.1 x.2.1 }
set_option maxRecDepth 4000 in
theorem ok_s_l07Length : FmOK Tryz.prog 44 m_s_l07Length := @FmOK.made Tryz.prog E_s_l07Length ek_s_l07Length 44 Tryz.f44 noL m_s_l07Length Tryz.func44 (by kernel_rfl) (Loops.none (by kernel_rfl)) fun ds out _ hr => by obtain ⟨m, state, ⟨⟩⟩ := ds; exact (ev_s_l07Length m state).trans hr

def E_s_l07Time : Tabs := (mkE tab [(44, m_s_l07Length), (25, m_s_l00In)] [])
set_option maxRecDepth 4000 in
theorem ek_s_l07Time : EnvOK Tryz.prog E_s_l07Time := (mkE_ok tab_ok mixed (AllF.cons ok_s_l07Length (AllF.cons ok_s_l00In AllF.nil)) AllX.nil)
theorem ev_s_l07Time (m : dMachine) (state : Int) (time : Int) : evalF E_s_l07Time noL Tryz.f27 [.rptr tMachine, .ro false (.int .i64), .ro false (.int .i64)] (.one false .bool) (m, state, time, ()) = g_s_l07Time m state time := by kernel_rfl
def m_s_l07Time : FM := { ps := [.rptr tMachine, .ro false (.int .i64), .ro false (.int .i64)], res := .one false .bool, run := fun x => g_s_l07Time x.1 x.2.1 x.2.2.1 }
set_option maxRecDepth 4000 in
theorem ok_s_l07Time : FmOK Tryz.prog 27 m_s_l07Time := @FmOK.made Tryz.prog E_s_l07Time ek_s_l07Time 27 Tryz.f27 noL m_s_l07Time Tryz.func27 (by kernel_rfl) (Loops.none (by kernel_rfl)) fun ds out _ hr => by obtain ⟨m, state, time, ⟨⟩⟩ := ds; exact (ev_s_l07Time m state time).trans hr

def E_s_l07Run : Tabs := (mkE tab [(25, m_s_l00In), (27, m_s_l07Time)] [])
set_option maxRecDepth 4000 in
theorem ek_s_l07Run : EnvOK Tryz.prog E_s_l07Run := (mkE_ok tab_ok mixed (AllF.cons ok_s_l00In (AllF.cons ok_s_l07Time AllF.nil)) AllX.nil)
theorem ev_s_l07Run (m : dMachine) (r : dRun) : evalF E_s_l07Run noL Tryz.f14 [.rptr tMachine, .rptr tRun] (.one false .bool) (m, r, ()) = g_s_l07Run m r := by kernel_rfl
def m_s_l07Run : FM := { ps := [.rptr tMachine, .rptr tRun], res := .one false .bool, run := fun x => g_s_l07Run x.1 x.2.1 }
set_option maxRecDepth 4000 in
theorem ok_s_l07Run : FmOK Tryz.prog 14 m_s_l07Run := @FmOK.made Tryz.prog E_s_l07Run ek_s_l07Run 14 Tryz.f14 noL m_s_l07Run Tryz.func14 (by kernel_rfl) (Loops.none (by kernel_rfl)) fun ds out _ hr => by obtain ⟨m, r, ⟨⟩⟩ := ds; exact (ev_s_l07Run m r).trans hr

def E_s_l01Dec : Tabs := (mkE tab [] [])
set_option maxRecDepth 4000 in
theorem ek_s_l01Dec : EnvOK Tryz.prog E_s_l01Dec := (mkE_ok tab_ok mixed AllF.nil AllX.nil)
def lm_L_s_l01Dec_1 : LM := { mat := [.mv 3 0], head := { slots := [(0, .dat false (.int .i64)), (3, .cst (.sl (.row 0))), (4, .dat false (.int .i64))], blks := [.row false (.int .u8)] }, out := { slots := [(0, .dat false (.int .i64)), (3, .cst (.sl (.row 0)))], blks := [.row false (.int .u8)] }, ex := 0, rets := false, run := iter L_s_l01Dec_1 fuel }
def ll_s_l01Dec : List (Nat × LP) := [(3, .lm lm_L_s_l01Dec_1)]
theorem rd_L_s_l01Dec_1 (rec' : (Int × Int × Unit) × ((List Int) × Unit) → Option ((Int × Unit) × ((List Int) × Unit))) (n : Int) (rest : Int) (r0 : (List Int)) : round E_s_l01Dec (lookL ll_s_l01Dec) lm_L_s_l01Dec_1 36 (loopAt Tryz.f45 0) rec' ((n, rest, ()), (r0, ())) = L_s_l01Dec_1 rec' ((n, rest, ()), (r0, ())) := by kernel_rfl
theorem lo_s_l01Dec : Loops E_s_l01Dec (lookL ll_s_l01Dec) Tryz.f45 := Loops.list (by kernel_rfl) (by kernel_rfl) ⟨LoopOK.iter (step := L_s_l01Dec_1) (N := fun _ => fuel) (fun rec' x => by obtain ⟨⟨n, rest, ⟨⟩⟩, ⟨r0, ⟨⟩⟩⟩ := x; exact rd_L_s_l01Dec_1 rec' n rest r0) fun _ => rfl, trivial⟩
theorem ev_s_l01Dec (n : Int) : evalF E_s_l01Dec (lookL ll_s_l01Dec) Tryz.f45 [.ro false (.int .i64)] (.one false .str) (n, ()) = g_s_l01Dec n := by kernel_rfl
def m_s_l01Dec : FM := { ps := [.ro false (.int .i64)], res := .one false .str, run := fun x => g_s_l01Dec x.1 }
set_option maxRecDepth 4000 in
theorem ok_s_l01Dec : FmOK Tryz.prog 45 m_s_l01Dec := @FmOK.made Tryz.prog E_s_l01Dec ek_s_l01Dec 45 Tryz.f45 (lookL ll_s_l01Dec) m_s_l01Dec Tryz.func45 (by kernel_rfl) lo_s_l01Dec fun ds out _ hr => by obtain ⟨n, ⟨⟩⟩ := ds; exact (ev_s_l01Dec n).trans hr

def E_s_l01Text : Tabs := (mkE tab [(45, m_s_l01Dec)] [])
set_option maxRecDepth 4000 in
theorem ek_s_l01Text : EnvOK Tryz.prog E_s_l01Text := (mkE_ok tab_ok mixed (AllF.cons ok_s_l01Dec AllF.nil) AllX.nil)
def lm_L_s_l01Text_1 : LM := { mat := [], head := { slots := [(0, .dat false (.slice (.int .i64))), (3, .dat false .str), (4, .dat false (.int .i64))], blks := [] }, out := { slots := [(3, .dat false .str)], blks := [] }, ex := 0, rets := false, run := iter L_s_l01Text_1 fuel }
def ll_s_l01Text : List (Nat × LP) := [(5, .lm lm_L_s_l01Text_1)]
theorem rd_L_s_l01Text_1 (rec' : ((List Int) × ByteArray × Int × Unit) × (Unit) → Option ((ByteArray × Unit) × (Unit))) (list : (List Int)) (out : ByteArray) (i : Int) : round E_s_l01Text (lookL ll_s_l01Text) lm_L_s_l01Text_1 27 (loopAt Tryz.f28 0) rec' ((list, out, i, ()), (())) = L_s_l01Text_1 rec' ((list, out, i, ()), (())) := by kernel_rfl
theorem lo_s_l01Text : Loops E_s_l01Text (lookL ll_s_l01Text) Tryz.f28 := Loops.list (by kernel_rfl) (by kernel_rfl) ⟨LoopOK.iter (step := L_s_l01Text_1) (N := fun _ => fuel) (fun rec' x => by obtain ⟨⟨list, out, i, ⟨⟩⟩, ⟨⟨⟩⟩⟩ := x; exact rd_L_s_l01Text_1 rec' list out i) fun _ => rfl, trivial⟩
theorem ev_s_l01Text (list : (List Int)) : evalF E_s_l01Text (lookL ll_s_l01Text) Tryz.f28 [.ro false (.slice (.int .i64))] (.one false .str) (list, ()) = g_s_l01Text list := by kernel_rfl
def m_s_l01Text : FM := { ps := [.ro false (.slice (.int .i64))], res := .one false .str, run := fun x => g_s_l01Text x.1 }
set_option maxRecDepth 4000 in
theorem ok_s_l01Text : FmOK Tryz.prog 28 m_s_l01Text := @FmOK.made Tryz.prog E_s_l01Text ek_s_l01Text 28 Tryz.f28 (lookL ll_s_l01Text) m_s_l01Text Tryz.func28 (by kernel_rfl) lo_s_l01Text fun ds out _ hr => by obtain ⟨list, ⟨⟩⟩ := ds; exact (ev_s_l01Text list).trans hr

def E_s_l07Text : Tabs := (mkE tab [(28, m_s_l01Text)] [])
set_option maxRecDepth 4000 in
theorem ek_s_l07Text : EnvOK Tryz.prog E_s_l07Text := (mkE_ok tab_ok mixed (AllF.cons ok_s_l01Text AllF.nil) AllX.nil)
theorem ev_s_l07Text (r : dRun) : evalF E_s_l07Text noL Tryz.f15 [.rptr tRun] (.one false .str) (r, ()) = g_s_l07Text r := by kernel_rfl
def m_s_l07Text : FM := { ps := [.rptr tRun], res := .one false .str, run := fun x => g_s_l07Text x.1 }
set_option maxRecDepth 4000 in
theorem ok_s_l07Text : FmOK Tryz.prog 15 m_s_l07Text := @FmOK.made Tryz.prog E_s_l07Text ek_s_l07Text 15 Tryz.f15 noL m_s_l07Text Tryz.func15 (by kernel_rfl) (Loops.none (by kernel_rfl)) fun ds out _ hr => by obtain ⟨r, ⟨⟩⟩ := ds; exact (ev_s_l07Text r).trans hr

def E_s_StateText : Tabs := (mkE tab [(13, m_s_l07Is), (14, m_s_l07Run), (15, m_s_l07Text)] [])
set_option maxRecDepth 4000 in
theorem ek_s_StateText : EnvOK Tryz.prog E_s_StateText := (mkE_ok tab_ok mixed (AllF.cons ok_s_l07Is (AllF.cons ok_s_l07Run (AllF.cons ok_s_l07Text AllF.nil))) AllX.nil)
theorem ev_s_StateText (m : dMachine) (r : dRun) : evalF E_s_StateText noL Tryz.f5 [.ro true tMachine, .ro true tRun] (.tup [(false, .str), (false, .bool)]) (m, r, ()) = g_s_StateText m r := by kernel_rfl
def m_s_StateText : FM := { ps := [.ro true tMachine, .ro true tRun], res := .tup [(false, .str), (false, .bool)], run := fun x => g_s_StateText x.1 x.2.1 }
set_option maxRecDepth 4000 in
theorem ok_s_StateText : FmOK Tryz.prog 5 m_s_StateText := @FmOK.made Tryz.prog E_s_StateText ek_s_StateText 5 Tryz.f5 noL m_s_StateText Tryz.func5 (by kernel_rfl) (Loops.none (by kernel_rfl)) fun ds out _ hr => by obtain ⟨m, r, ⟨⟩⟩ := ds; exact (ev_s_StateText m r).trans hr

def E_i_turnTrack : Tabs := (mkE tab [] [])
set_option maxRecDepth 4000 in
theorem ek_i_turnTrack : EnvOK Tryz.prog E_i_turnTrack := (mkE_ok tab_ok mixed AllF.nil AllX.nil)
theorem ev_i_turnTrack  : evalF E_i_turnTrack noL Tryz.f73 [] (.one true (.pair (.fn 86) (.pair (.fn 87) (.pair (.fn 88) .unit)))) (()) = g_i_turnTrack  := by kernel_rfl
def m_i_turnTrack : FM := { ps := [], res := .one true (.pair (.fn 86) (.pair (.fn 87) (.pair (.fn 88) .unit))), run := fun x => some (t_i_turnTrack ) }
set_option maxRecDepth 4000 in
theorem ok_i_turnTrack : FmOK Tryz.prog 73 m_i_turnTrack := @FmOK.made Tryz.prog E_i_turnTrack ek_i_turnTrack 73 Tryz.f73 noL m_i_turnTrack Tryz.func73 (by kernel_rfl) (Loops.none (by kernel_rfl)) fun ds out _ hr => by obtain ⟨⟨⟩⟩ := ds; exact (ev_i_turnTrack ).trans ((q_i_turnTrack ).trans hr)

def E_i_turnTrack_1 : Tabs := (mkE tab [] [])
set_option maxRecDepth 4000 in
theorem ek_i_turnTrack_1 : EnvOK Tryz.prog E_i_turnTrack_1 := (mkE_ok tab_ok mixed AllF.nil AllX.nil)
theorem ev_i_turnTrack_1 (k : dKey) : evalF E_i_turnTrack_1 noL Tryz.f86 [.ro true tKey] (.one false (.int .i64)) (k, ()) = g_i_turnTrack_1 k := by kernel_rfl
def m_i_turnTrack_1 : FM := { ps := [.ro true tKey], res := .one false (.int .i64), run := fun x => some (t_i_turnTrack_1 x.1) }
set_option maxRecDepth 4000 in
theorem ok_i_turnTrack_1 : FmOK Tryz.prog 86 m_i_turnTrack_1 := @FmOK.made Tryz.prog E_i_turnTrack_1 ek_i_turnTrack_1 86 Tryz.f86 noL m_i_turnTrack_1 Tryz.func86 (by kernel_rfl) (Loops.none (by kernel_rfl)) fun ds out _ hr => by obtain ⟨k, ⟨⟩⟩ := ds; exact (ev_i_turnTrack_1 k).trans ((q_i_turnTrack_1 k).trans hr)

def E_i_track_i_Key_valid : Tabs := (mkE tab [(86, m_i_turnTrack_1)] [])
set_option maxRecDepth 4000 in
theorem ek_i_track_i_Key_valid : EnvOK Tryz.prog E_i_track_i_Key_valid := (mkE_ok tab_ok mixed (AllF.cons ok_i_turnTrack_1 AllF.nil) AllX.nil)
def lm_L_i_track_i_Key_valid_1 : LM := { mat := [], head := { slots := [(1, .dat false (.slice tKey)), (2, .dat false (.int .i64)), (3, .cst (.ptr (.box 0 0))), (6, .dat false .bool), (7, .dat false (.int .i64)), (11, .dat false (.slice tKey)), (12, .dat false (.int .i64)), (13, .dat false (.int .i64))], blks := [.box [.dat (.pair (.fn 86) (.pair (.fn 87) (.pair (.fn 88) .unit)))]] }, out := { slots := [(1, .dat false (.slice tKey)), (6, .dat false .bool)], blks := [.dead] }, ex := 0, rets := true, run := iter L_i_track_i_Key_valid_1 fuel }
def ll_i_track_i_Key_valid : List (Nat × LP) := [(3, .lm lm_L_i_track_i_Key_valid_1)]
theorem rd_L_i_track_i_Key_valid_1 (rec' : ((List dKey) × Int × Bool × Int × (List dKey) × Int × Int × Unit) × (((Unit × (Unit × (Unit × Unit))) × Unit) × Unit) → Option (Bool × (((List dKey) × Bool × Unit) × (Unit)))) (keys : (List dKey)) (length : Int) (t6 : Bool) (last : Int) (t11 : (List dKey)) (t12 : Int) (t13 : Int) (b0 : (Unit × (Unit × (Unit × Unit)))) : round E_i_track_i_Key_valid (lookL ll_i_track_i_Key_valid) lm_L_i_track_i_Key_valid_1 42 (loopAt Tryz.f74 0) rec' ((keys, length, t6, last, t11, t12, t13, ()), ((b0, ()), ())) = L_i_track_i_Key_valid_1 rec' ((keys, length, t6, last, t11, t12, t13, ()), ((b0, ()), ())) := by kernel_rfl
theorem lo_i_track_i_Key_valid : Loops E_i_track_i_Key_valid (lookL ll_i_track_i_Key_valid) Tryz.f74 := Loops.list (by kernel_rfl) (by kernel_rfl) ⟨LoopOK.iter (step := L_i_track_i_Key_valid_1) (N := fun _ => fuel) (fun rec' x => by obtain ⟨⟨keys, length, t6, last, t11, t12, t13, ⟨⟩⟩, ⟨⟨b0, ⟨⟩⟩, ⟨⟩⟩⟩ := x; exact rd_L_i_track_i_Key_valid_1 rec' keys length t6 last t11 t12 t13 b0) fun _ => rfl, trivial⟩
theorem ev_i_track_i_Key_valid (t : (Unit × (Unit × (Unit × Unit)))) (keys : (List dKey)) (length : Int) : evalF E_i_track_i_Key_valid (lookL ll_i_track_i_Key_valid) Tryz.f74 [.ro true (.pair (.fn 86) (.pair (.fn 87) (.pair (.fn 88) .unit))), .ro false (.slice tKey), .ro false (.int .i64)] (.one false .bool) (t, keys, length, ()) = g_i_track_i_Key_valid t keys length := by kernel_rfl
def m_i_track_i_Key_valid : FM := { ps := [.ro true (.pair (.fn 86) (.pair (.fn 87) (.pair (.fn 88) .unit))), .ro false (.slice tKey), .ro false (.int .i64)], res := .one false .bool, run := fun x => g_i_track_i_Key_valid x.1 x.2.1 x.2.2.1 }
set_option maxRecDepth 4000 in
theorem ok_i_track_i_Key_valid : FmOK Tryz.prog 74 m_i_track_i_Key_valid := @FmOK.made Tryz.prog E_i_track_i_Key_valid ek_i_track_i_Key_valid 74 Tryz.f74 (lookL ll_i_track_i_Key_valid) m_i_track_i_Key_valid Tryz.func74 (by kernel_rfl) lo_i_track_i_Key_valid fun ds out _ hr => by obtain ⟨t, keys, length, ⟨⟩⟩ := ds; exact (ev_i_track_i_Key_valid t keys length).trans hr

def E_i_rootTrack : Tabs := (mkE tab [] [])
set_option maxRecDepth 4000 in
theorem ek_i_rootTrack : EnvOK Tryz.prog E_i_rootTrack := (mkE_ok tab_ok mixed AllF.nil AllX.nil)
theorem ev_i_rootTrack  : evalF E_i_rootTrack noL Tryz.f75 [] (.one true (.pair (.fn 90) (.pair (.fn 91) (.pair (.fn 92) .unit)))) (()) = g_i_rootTrack  := by kernel_rfl
def m_i_rootTrack : FM := { ps := [], res := .one true (.pair (.fn 90) (.pair (.fn 91) (.pair (.fn 92) .unit))), run := fun x => some (t_i_rootTrack ) }
set_option maxRecDepth 4000 in
theorem ok_i_rootTrack : FmOK Tryz.prog 75 m_i_rootTrack := @FmOK.made Tryz.prog E_i_rootTrack ek_i_rootTrack 75 Tryz.f75 noL m_i_rootTrack Tryz.func75 (by kernel_rfl) (Loops.none (by kernel_rfl)) fun ds out _ hr => by obtain ⟨⟨⟩⟩ := ds; exact (ev_i_rootTrack ).trans ((q_i_rootTrack ).trans hr)

def E_i_rootTrack_1 : Tabs := (mkE tab [] [])
set_option maxRecDepth 4000 in
theorem ek_i_rootTrack_1 : EnvOK Tryz.prog E_i_rootTrack_1 := (mkE_ok tab_ok mixed AllF.nil AllX.nil)
theorem ev_i_rootTrack_1 (k : dRootKey) : evalF E_i_rootTrack_1 noL Tryz.f90 [.ro true tRootKey] (.one false (.int .i64)) (k, ()) = g_i_rootTrack_1 k := by kernel_rfl
def m_i_rootTrack_1 : FM := { ps := [.ro true tRootKey], res := .one false (.int .i64), run := fun x => some (t_i_rootTrack_1 x.1) }
set_option maxRecDepth 4000 in
theorem ok_i_rootTrack_1 : FmOK Tryz.prog 90 m_i_rootTrack_1 := @FmOK.made Tryz.prog E_i_rootTrack_1 ek_i_rootTrack_1 90 Tryz.f90 noL m_i_rootTrack_1 Tryz.func90 (by kernel_rfl) (Loops.none (by kernel_rfl)) fun ds out _ hr => by obtain ⟨k, ⟨⟩⟩ := ds; exact (ev_i_rootTrack_1 k).trans ((q_i_rootTrack_1 k).trans hr)

def E_i_track_i_RootKey_valid : Tabs := (mkE tab [(90, m_i_rootTrack_1)] [])
set_option maxRecDepth 4000 in
theorem ek_i_track_i_RootKey_valid : EnvOK Tryz.prog E_i_track_i_RootKey_valid := (mkE_ok tab_ok mixed (AllF.cons ok_i_rootTrack_1 AllF.nil) AllX.nil)
def lm_L_i_track_i_RootKey_valid_1 : LM := { mat := [], head := { slots := [(1, .dat false (.slice tRootKey)), (2, .dat false (.int .i64)), (3, .cst (.ptr (.box 0 0))), (6, .dat false .bool), (7, .dat false (.int .i64)), (11, .dat false (.slice tRootKey)), (12, .dat false (.int .i64)), (13, .dat false (.int .i64))], blks := [.box [.dat (.pair (.fn 90) (.pair (.fn 91) (.pair (.fn 92) .unit)))]] }, out := { slots := [(1, .dat false (.slice tRootKey)), (6, .dat false .bool)], blks := [.dead] }, ex := 0, rets := true, run := iter L_i_track_i_RootKey_valid_1 fuel }
def ll_i_track_i_RootKey_valid : List (Nat × LP) := [(3, .lm lm_L_i_track_i_RootKey_valid_1)]
theorem rd_L_i_track_i_RootKey_valid_1 (rec' : ((List dRootKey) × Int × Bool × Int × (List dRootKey) × Int × Int × Unit) × (((Unit × (Unit × (Unit × Unit))) × Unit) × Unit) → Option (Bool × (((List dRootKey) × Bool × Unit) × (Unit)))) (keys : (List dRootKey)) (length : Int) (t6 : Bool) (last : Int) (t11 : (List dRootKey)) (t12 : Int) (t13 : Int) (b0 : (Unit × (Unit × (Unit × Unit)))) : round E_i_track_i_RootKey_valid (lookL ll_i_track_i_RootKey_valid) lm_L_i_track_i_RootKey_valid_1 42 (loopAt Tryz.f76 0) rec' ((keys, length, t6, last, t11, t12, t13, ()), ((b0, ()), ())) = L_i_track_i_RootKey_valid_1 rec' ((keys, length, t6, last, t11, t12, t13, ()), ((b0, ()), ())) := by kernel_rfl
theorem lo_i_track_i_RootKey_valid : Loops E_i_track_i_RootKey_valid (lookL ll_i_track_i_RootKey_valid) Tryz.f76 := Loops.list (by kernel_rfl) (by kernel_rfl) ⟨LoopOK.iter (step := L_i_track_i_RootKey_valid_1) (N := fun _ => fuel) (fun rec' x => by obtain ⟨⟨keys, length, t6, last, t11, t12, t13, ⟨⟩⟩, ⟨⟨b0, ⟨⟩⟩, ⟨⟩⟩⟩ := x; exact rd_L_i_track_i_RootKey_valid_1 rec' keys length t6 last t11 t12 t13 b0) fun _ => rfl, trivial⟩
theorem ev_i_track_i_RootKey_valid (t : (Unit × (Unit × (Unit × Unit)))) (keys : (List dRootKey)) (length : Int) : evalF E_i_track_i_RootKey_valid (lookL ll_i_track_i_RootKey_valid) Tryz.f76 [.ro true (.pair (.fn 90) (.pair (.fn 91) (.pair (.fn 92) .unit))), .ro false (.slice tRootKey), .ro false (.int .i64)] (.one false .bool) (t, keys, length, ()) = g_i_track_i_RootKey_valid t keys length := by kernel_rfl
def m_i_track_i_RootKey_valid : FM := { ps := [.ro true (.pair (.fn 90) (.pair (.fn 91) (.pair (.fn 92) .unit))), .ro false (.slice tRootKey), .ro false (.int .i64)], res := .one false .bool, run := fun x => g_i_track_i_RootKey_valid x.1 x.2.1 x.2.2.1 }
set_option maxRecDepth 4000 in
theorem ok_i_track_i_RootKey_valid : FmOK Tryz.prog 76 m_i_track_i_RootKey_valid := @FmOK.made Tryz.prog E_i_track_i_RootKey_valid ek_i_track_i_RootKey_valid 76 Tryz.f76 (lookL ll_i_track_i_RootKey_valid) m_i_track_i_RootKey_valid Tryz.func76 (by kernel_rfl) lo_i_track_i_RootKey_valid fun ds out _ hr => by obtain ⟨t, keys, length, ⟨⟩⟩ := ds; exact (ev_i_track_i_RootKey_valid t keys length).trans hr

def E_i_ValidClip : Tabs := (mkE tab [(73, m_i_turnTrack), (74, m_i_track_i_Key_valid), (75, m_i_rootTrack), (76, m_i_track_i_RootKey_valid)] [])
set_option maxRecDepth 4000 in
theorem ek_i_ValidClip : EnvOK Tryz.prog E_i_ValidClip := (mkE_ok tab_ok mixed (AllF.cons ok_i_turnTrack (AllF.cons ok_i_track_i_Key_valid (AllF.cons ok_i_rootTrack (AllF.cons ok_i_track_i_RootKey_valid AllF.nil)))) AllX.nil)
def lm_L_i_ValidClip_1 : LM := { mat := [], head := { slots := [(1, .cst (.ptr (.box 0 0))), (2, .dat false .bool), (36, .dat false (.slice (.slice tKey))), (37, .dat false (.int .i64)), (38, .dat false (.int .i64))], blks := [.box [.dat tClip]] }, out := { slots := [(1, .cst (.ptr (.box 0 0))), (2, .dat false .bool)], blks := [.box [.dat tClip]] }, ex := 0, rets := true, run := iter L_i_ValidClip_1 fuel }
def ll_i_ValidClip : List (Nat × LP) := [(4, .lm lm_L_i_ValidClip_1)]
theorem rd_L_i_ValidClip_1 (rec' : (Bool × (List (List dKey)) × Int × Int × Unit) × ((dClip × Unit) × Unit) → Option (Bool × ((Bool × Unit) × ((dClip × Unit) × Unit)))) (t2 : Bool) (t36 : (List (List dKey))) (t37 : Int) (t38 : Int) (b0 : dClip) : round E_i_ValidClip (lookL ll_i_ValidClip) lm_L_i_ValidClip_1 55 (loopAt Tryz.f62 0) rec' ((t2, t36, t37, t38, ()), ((b0, ()), ())) = L_i_ValidClip_1 rec' ((t2, t36, t37, t38, ()), ((b0, ()), ())) := by kernel_rfl
theorem lo_i_ValidClip : Loops E_i_ValidClip (lookL ll_i_ValidClip) Tryz.f62 := Loops.list (by kernel_rfl) (by kernel_rfl) ⟨LoopOK.iter (step := L_i_ValidClip_1) (N := fun _ => fuel) (fun rec' x => by obtain ⟨⟨t2, t36, t37, t38, ⟨⟩⟩, ⟨⟨b0, ⟨⟩⟩, ⟨⟩⟩⟩ := x; exact rd_L_i_ValidClip_1 rec' t2 t36 t37 t38 b0) fun _ => rfl, trivial⟩
theorem ev_i_ValidClip (c : dClip) : evalF E_i_ValidClip (lookL ll_i_ValidClip) Tryz.f62 [.ro true tClip] (.one false .bool) (c, ()) = g_i_ValidClip c := by kernel_rfl
def m_i_ValidClip : FM := { ps := [.ro true tClip], res := .one false .bool, run := fun x => g_i_ValidClip x.1 }
set_option maxRecDepth 4000 in
theorem ok_i_ValidClip : FmOK Tryz.prog 62 m_i_ValidClip := @FmOK.made Tryz.prog E_i_ValidClip ek_i_ValidClip 62 Tryz.f62 (lookL ll_i_ValidClip) m_i_ValidClip Tryz.func62 (by kernel_rfl) lo_i_ValidClip fun ds out _ hr => by obtain ⟨c, ⟨⟩⟩ := ds; exact (ev_i_ValidClip c).trans hr

def E_i_areClips_1 : Tabs := (mkE tab [(62, m_i_ValidClip)] [])
set_option maxRecDepth 4000 in
theorem ek_i_areClips_1 : EnvOK Tryz.prog E_i_areClips_1 := (mkE_ok tab_ok mixed (AllF.cons ok_i_ValidClip AllF.nil) AllX.nil)
theorem ev_i_areClips_1 (c : dClip) (p1 : (List dClip)) : evalF E_i_areClips_1 noL Tryz.f61 [.ro true tClip, .rptr (.slice tClip)] (.one false .bool) (c, p1, ()) = g_i_areClips_1 c p1 := by kernel_rfl
def m_i_areClips_1 : FM := { ps := [.ro true tClip, .rptr (.slice tClip)], res := .one false .bool, run := fun x => g_i_areClips_1 x.1 x.2.1 }
set_option maxRecDepth 4000 in
theorem ok_i_areClips_1 : FmOK Tryz.prog 61 m_i_areClips_1 := @FmOK.made Tryz.prog E_i_areClips_1 ek_i_areClips_1 61 Tryz.f61 noL m_i_areClips_1 Tryz.func61 (by kernel_rfl) (Loops.none (by kernel_rfl)) fun ds out _ hr => by obtain ⟨c, p1, ⟨⟩⟩ := ds; exact (ev_i_areClips_1 c p1).trans hr

def E_slices_IndexFunc_i_Clip_i_Clip : Tabs := (mkE tab [(61, m_i_areClips_1)] [])
set_option maxRecDepth 4000 in
theorem ek_slices_IndexFunc_i_Clip_i_Clip : EnvOK Tryz.prog E_slices_IndexFunc_i_Clip_i_Clip := (mkE_ok tab_ok mixed (AllF.cons ok_i_areClips_1 AllF.nil) AllX.nil)
def lm_L_slices_IndexFunc_i_Clip_i_Clip_1 : LM := { mat := [], head := { slots := [(0, .dat false (.slice tClip)), (1, .fnc 61 [(.slice tClip)]), (4, .dat false (.int .i64)), (7, .dat false (.int .i64)), (8, .dat false (.int .i64))], blks := [] }, out := { slots := [(4, .dat false (.int .i64))], blks := [] }, ex := 0, rets := true, run := iter L_slices_IndexFunc_i_Clip_i_Clip_1 fuel }
def ll_slices_IndexFunc_i_Clip_i_Clip : List (Nat × LP) := [(2, .lm lm_L_slices_IndexFunc_i_Clip_i_Clip_1)]
theorem rd_L_slices_IndexFunc_i_Clip_i_Clip_1 (rec' : ((List dClip) × ((List dClip) × Unit) × Int × Int × Int × Unit) × (Unit) → Option (Bool × ((Int × Unit) × (Unit)))) (s : (List dClip)) (f : ((List dClip) × Unit)) (t4 : Int) (t7 : Int) (t8 : Int) : round E_slices_IndexFunc_i_Clip_i_Clip (lookL ll_slices_IndexFunc_i_Clip_i_Clip) lm_L_slices_IndexFunc_i_Clip_i_Clip_1 19 (loopAt Tryz.f72 0) rec' ((s, f, t4, t7, t8, ()), (())) = L_slices_IndexFunc_i_Clip_i_Clip_1 rec' ((s, f, t4, t7, t8, ()), (())) := by kernel_rfl
theorem lo_slices_IndexFunc_i_Clip_i_Clip : Loops E_slices_IndexFunc_i_Clip_i_Clip (lookL ll_slices_IndexFunc_i_Clip_i_Clip) Tryz.f72 := Loops.list (by kernel_rfl) (by kernel_rfl) ⟨LoopOK.iter (step := L_slices_IndexFunc_i_Clip_i_Clip_1) (N := fun _ => fuel) (fun rec' x => by obtain ⟨⟨s, f, t4, t7, t8, ⟨⟩⟩, ⟨⟨⟩⟩⟩ := x; exact rd_L_slices_IndexFunc_i_Clip_i_Clip_1 rec' s f t4 t7 t8) fun _ => rfl, trivial⟩
theorem ev_slices_IndexFunc_i_Clip_i_Clip (s : (List dClip)) (f : ((List dClip) × Unit)) : evalF E_slices_IndexFunc_i_Clip_i_Clip (lookL ll_slices_IndexFunc_i_Clip_i_Clip) Tryz.f72 [.ro false (.slice tClip), .fnc 61 [(.slice tClip)]] (.one false (.int .i64)) (s, f, ()) = g_slices_IndexFunc_i_Clip_i_Clip s f := by kernel_rfl
def m_slices_IndexFunc_i_Clip_i_Clip : FM := { ps := [.ro false (.slice tClip), .fnc 61 [(.slice tClip)]], res := .one false (.int .i64), run := fun x => g_slices_IndexFunc_i_Clip_i_Clip x.1 x.2.1 }
set_option maxRecDepth 4000 in
theorem ok_slices_IndexFunc_i_Clip_i_Clip : FmOK Tryz.prog 72 m_slices_IndexFunc_i_Clip_i_Clip := @FmOK.made Tryz.prog E_slices_IndexFunc_i_Clip_i_Clip ek_slices_IndexFunc_i_Clip_i_Clip 72 Tryz.f72 (lookL ll_slices_IndexFunc_i_Clip_i_Clip) m_slices_IndexFunc_i_Clip_i_Clip Tryz.func72 (by kernel_rfl) lo_slices_IndexFunc_i_Clip_i_Clip fun ds out _ hr => by obtain ⟨s, f, ⟨⟩⟩ := ds; exact (ev_slices_IndexFunc_i_Clip_i_Clip s f).trans hr

def E_slices_ContainsFunc_i_Clip_i_Clip : Tabs := (mkE tab [(72, m_slices_IndexFunc_i_Clip_i_Clip)] [])
set_option maxRecDepth 4000 in
theorem ek_slices_ContainsFunc_i_Clip_i_Clip : EnvOK Tryz.prog E_slices_ContainsFunc_i_Clip_i_Clip := (mkE_ok tab_ok mixed (AllF.cons ok_slices_IndexFunc_i_Clip_i_Clip AllF.nil) AllX.nil)
theorem ev_slices_ContainsFunc_i_Clip_i_Clip (s : (List dClip)) (f : ((List dClip) × Unit)) : evalF E_slices_ContainsFunc_i_Clip_i_Clip noL Tryz.f60 [.ro false (.slice tClip), .fnc 61 [(.slice tClip)]] (.one false .bool) (s, f, ()) = g_slices_ContainsFunc_i_Clip_i_Clip s f := by kernel_rfl
def m_slices_ContainsFunc_i_Clip_i_Clip : FM := { ps := [.ro false (.slice tClip), .fnc 61 [(.slice tClip)]], res := .one false .bool, run := fun x => g_slices_ContainsFunc_i_Clip_i_Clip x.1 x.2.1 }
set_option maxRecDepth 4000 in
theorem ok_slices_ContainsFunc_i_Clip_i_Clip : FmOK Tryz.prog 60 m_slices_ContainsFunc_i_Clip_i_Clip := @FmOK.made Tryz.prog E_slices_ContainsFunc_i_Clip_i_Clip ek_slices_ContainsFunc_i_Clip_i_Clip 60 Tryz.f60 noL m_slices_ContainsFunc_i_Clip_i_Clip Tryz.func60 (by kernel_rfl) (Loops.none (by kernel_rfl)) fun ds out _ hr => by obtain ⟨s, f, ⟨⟩⟩ := ds; exact (ev_slices_ContainsFunc_i_Clip_i_Clip s f).trans hr

def E_i_areClips : Tabs := (mkE tab [(60, m_slices_ContainsFunc_i_Clip_i_Clip)] [])
set_option maxRecDepth 4000 in
theorem ek_i_areClips : EnvOK Tryz.prog E_i_areClips := (mkE_ok tab_ok mixed (AllF.cons ok_slices_ContainsFunc_i_Clip_i_Clip AllF.nil) AllX.nil)
theorem ev_i_areClips (clips : (List dClip)) : evalF E_i_areClips noL Tryz.f48 [.ro false (.slice tClip)] (.one false .bool) (clips, ()) = g_i_areClips clips := by kernel_rfl
def m_i_areClips : FM := { ps := [.ro false (.slice tClip)], res := .one false .bool, run := fun x => g_i_areClips x.1 }
set_option maxRecDepth 4000 in
theorem ok_i_areClips : FmOK Tryz.prog 48 m_i_areClips := @FmOK.made Tryz.prog E_i_areClips ek_i_areClips 48 Tryz.f48 noL m_i_areClips Tryz.func48 (by kernel_rfl) (Loops.none (by kernel_rfl)) fun ds out _ hr => by obtain ⟨clips, ⟨⟩⟩ := ds; exact (ev_i_areClips clips).trans hr

def E_i_ValidMachine_1 : Tabs := (mkE tab [] [])
set_option maxRecDepth 4000 in
theorem ek_i_ValidMachine_1 : EnvOK Tryz.prog E_i_ValidMachine_1 := (mkE_ok tab_ok mixed AllF.nil AllX.nil)
theorem ev_i_ValidMachine_1 (r : dRule) (p1 : Int) : evalF E_i_ValidMachine_1 noL Tryz.f50 [.ro true tRule, .rptr (.int .i64)] (.one false .bool) (r, p1, ()) = g_i_ValidMachine_1 r p1 := by kernel_rfl
def m_i_ValidMachine_1 : FM := { ps := [.ro true tRule, .rptr (.int .i64)], res := .one false .bool, run := fun x => some (t_i_ValidMachine_1 x.1 x.2.1) }
set_option maxRecDepth 4000 in
theorem ok_i_ValidMachine_1 : FmOK Tryz.prog 50 m_i_ValidMachine_1 := @FmOK.made Tryz.prog E_i_ValidMachine_1 ek_i_ValidMachine_1 50 Tryz.f50 noL m_i_ValidMachine_1 Tryz.func50 (by kernel_rfl) (Loops.none (by kernel_rfl)) fun ds out _ hr => by obtain ⟨r, p1, ⟨⟩⟩ := ds; exact (ev_i_ValidMachine_1 r p1).trans ((q_i_ValidMachine_1 r p1).trans hr)

def E_slices_IndexFunc_i_Rule_i_Rule : Tabs := (mkE tab [(50, m_i_ValidMachine_1)] [])
set_option maxRecDepth 4000 in
theorem ek_slices_IndexFunc_i_Rule_i_Rule : EnvOK Tryz.prog E_slices_IndexFunc_i_Rule_i_Rule := (mkE_ok tab_ok mixed (AllF.cons ok_i_ValidMachine_1 AllF.nil) AllX.nil)
def lm_L_slices_IndexFunc_i_Rule_i_Rule_1 : LM := { mat := [], head := { slots := [(0, .dat false (.slice tRule)), (1, .fnc 50 [(.int .i64)]), (4, .dat false (.int .i64)), (7, .dat false (.int .i64)), (8, .dat false (.int .i64))], blks := [] }, out := { slots := [(4, .dat false (.int .i64))], blks := [] }, ex := 0, rets := true, run := iter L_slices_IndexFunc_i_Rule_i_Rule_1 fuel }
def ll_slices_IndexFunc_i_Rule_i_Rule : List (Nat × LP) := [(2, .lm lm_L_slices_IndexFunc_i_Rule_i_Rule_1)]
theorem rd_L_slices_IndexFunc_i_Rule_i_Rule_1 (rec' : ((List dRule) × (Int × Unit) × Int × Int × Int × Unit) × (Unit) → Option (Bool × ((Int × Unit) × (Unit)))) (s : (List dRule)) (f : (Int × Unit)) (t4 : Int) (t7 : Int) (t8 : Int) : round E_slices_IndexFunc_i_Rule_i_Rule (lookL ll_slices_IndexFunc_i_Rule_i_Rule) lm_L_slices_IndexFunc_i_Rule_i_Rule_1 19 (loopAt Tryz.f63 0) rec' ((s, f, t4, t7, t8, ()), (())) = L_slices_IndexFunc_i_Rule_i_Rule_1 rec' ((s, f, t4, t7, t8, ()), (())) := by kernel_rfl
theorem lo_slices_IndexFunc_i_Rule_i_Rule : Loops E_slices_IndexFunc_i_Rule_i_Rule (lookL ll_slices_IndexFunc_i_Rule_i_Rule) Tryz.f63 := Loops.list (by kernel_rfl) (by kernel_rfl) ⟨LoopOK.iter (step := L_slices_IndexFunc_i_Rule_i_Rule_1) (N := fun _ => fuel) (fun rec' x => by obtain ⟨⟨s, f, t4, t7, t8, ⟨⟩⟩, ⟨⟨⟩⟩⟩ := x; exact rd_L_slices_IndexFunc_i_Rule_i_Rule_1 rec' s f t4 t7 t8) fun _ => rfl, trivial⟩
theorem ev_slices_IndexFunc_i_Rule_i_Rule (s : (List dRule)) (f : (Int × Unit)) : evalF E_slices_IndexFunc_i_Rule_i_Rule (lookL ll_slices_IndexFunc_i_Rule_i_Rule) Tryz.f63 [.ro false (.slice tRule), .fnc 50 [(.int .i64)]] (.one false (.int .i64)) (s, f, ()) = g_slices_IndexFunc_i_Rule_i_Rule s f := by kernel_rfl
def m_slices_IndexFunc_i_Rule_i_Rule : FM := { ps := [.ro false (.slice tRule), .fnc 50 [(.int .i64)]], res := .one false (.int .i64), run := fun x => g_slices_IndexFunc_i_Rule_i_Rule x.1 x.2.1 }
set_option maxRecDepth 4000 in
theorem ok_slices_IndexFunc_i_Rule_i_Rule : FmOK Tryz.prog 63 m_slices_IndexFunc_i_Rule_i_Rule := @FmOK.made Tryz.prog E_slices_IndexFunc_i_Rule_i_Rule ek_slices_IndexFunc_i_Rule_i_Rule 63 Tryz.f63 (lookL ll_slices_IndexFunc_i_Rule_i_Rule) m_slices_IndexFunc_i_Rule_i_Rule Tryz.func63 (by kernel_rfl) lo_slices_IndexFunc_i_Rule_i_Rule fun ds out _ hr => by obtain ⟨s, f, ⟨⟩⟩ := ds; exact (ev_slices_IndexFunc_i_Rule_i_Rule s f).trans hr

def E_slices_ContainsFunc_i_Rule_i_Rule : Tabs := (mkE tab [(63, m_slices_IndexFunc_i_Rule_i_Rule)] [])
set_option maxRecDepth 4000 in
theorem ek_slices_ContainsFunc_i_Rule_i_Rule : EnvOK Tryz.prog E_slices_ContainsFunc_i_Rule_i_Rule := (mkE_ok tab_ok mixed (AllF.cons ok_slices_IndexFunc_i_Rule_i_Rule AllF.nil) AllX.nil)
theorem ev_slices_ContainsFunc_i_Rule_i_Rule (s : (List dRule)) (f : (Int × Unit)) : evalF E_slices_ContainsFunc_i_Rule_i_Rule noL Tryz.f49 [.ro false (.slice tRule), .fnc 50 [(.int .i64)]] (.one false .bool) (s, f, ()) = g_slices_ContainsFunc_i_Rule_i_Rule s f := by kernel_rfl
def m_slices_ContainsFunc_i_Rule_i_Rule : FM := { ps := [.ro false (.slice tRule), .fnc 50 [(.int .i64)]], res := .one false .bool, run := fun x => g_slices_ContainsFunc_i_Rule_i_Rule x.1 x.2.1 }
set_option maxRecDepth 4000 in
theorem ok_slices_ContainsFunc_i_Rule_i_Rule : FmOK Tryz.prog 49 m_slices_ContainsFunc_i_Rule_i_Rule := @FmOK.made Tryz.prog E_slices_ContainsFunc_i_Rule_i_Rule ek_slices_ContainsFunc_i_Rule_i_Rule 49 Tryz.f49 noL m_slices_ContainsFunc_i_Rule_i_Rule Tryz.func49 (by kernel_rfl) (Loops.none (by kernel_rfl)) fun ds out _ hr => by obtain ⟨s, f, ⟨⟩⟩ := ds; exact (ev_slices_ContainsFunc_i_Rule_i_Rule s f).trans hr

def E_i_ValidMachine : Tabs := (mkE tab [(48, m_i_areClips), (49, m_slices_ContainsFunc_i_Rule_i_Rule)] [])
set_option maxRecDepth 4000 in
theorem ek_i_ValidMachine : EnvOK Tryz.prog E_i_ValidMachine := (mkE_ok tab_ok mixed (AllF.cons ok_i_areClips (AllF.cons ok_slices_ContainsFunc_i_Rule_i_Rule AllF.nil)) AllX.nil)
def lm_L_i_ValidMachine_1 : LM := { mat := [], head := { slots := [(1, .cst (.ptr (.box 0 0))), (2, .dat false .bool), (29, .dat false (.slice tState)), (30, .dat false (.int .i64)), (31, .dat false (.int .i64))], blks := [.box [.dat tMachine]] }, out := { slots := [(1, .cst (.ptr (.box 0 0))), (2, .dat false .bool)], blks := [.box [.dat tMachine]] }, ex := 0, rets := true, run := iter L_i_ValidMachine_1 fuel }
def ll_i_ValidMachine : List (Nat × LP) := [(4, .lm lm_L_i_ValidMachine_1)]
theorem rd_L_i_ValidMachine_1 (rec' : (Bool × (List dState) × Int × Int × Unit) × ((dMachine × Unit) × Unit) → Option (Bool × ((Bool × Unit) × ((dMachine × Unit) × Unit)))) (t2 : Bool) (t29 : (List dState)) (t30 : Int) (t31 : Int) (b0 : dMachine) : round E_i_ValidMachine (lookL ll_i_ValidMachine) lm_L_i_ValidMachine_1 65 (loopAt Tryz.f32 0) rec' ((t2, t29, t30, t31, ()), ((b0, ()), ())) = L_i_ValidMachine_1 rec' ((t2, t29, t30, t31, ()), ((b0, ()), ())) := by kernel_rfl
theorem lo_i_ValidMachine : Loops E_i_ValidMachine (lookL ll_i_ValidMachine) Tryz.f32 := Loops.list (by kernel_rfl) (by kernel_rfl) ⟨LoopOK.iter (step := L_i_ValidMachine_1) (N := fun _ => fuel) (fun rec' x => by obtain ⟨⟨t2, t29, t30, t31, ⟨⟩⟩, ⟨⟨b0, ⟨⟩⟩, ⟨⟩⟩⟩ := x; exact rd_L_i_ValidMachine_1 rec' t2 t29 t30 t31 b0) fun _ => rfl, trivial⟩
theorem ev_i_ValidMachine (m : dMachine) : evalF E_i_ValidMachine (lookL ll_i_ValidMachine) Tryz.f32 [.ro true tMachine] (.one false .bool) (m, ()) = g_i_ValidMachine m := by kernel_rfl
def m_i_ValidMachine : FM := { ps := [.ro true tMachine], res := .one false .bool, run := fun x => g_i_ValidMachine x.1 }
set_option maxRecDepth 4000 in
theorem ok_i_ValidMachine : FmOK Tryz.prog 32 m_i_ValidMachine := @FmOK.made Tryz.prog E_i_ValidMachine ek_i_ValidMachine 32 Tryz.f32 (lookL ll_i_ValidMachine) m_i_ValidMachine Tryz.func32 (by kernel_rfl) lo_i_ValidMachine fun ds out _ hr => by obtain ⟨m, ⟨⟩⟩ := ds; exact (ev_i_ValidMachine m).trans hr

def E_i_Machine_length : Tabs := (mkE tab [] [])
set_option maxRecDepth 4000 in
theorem ek_i_Machine_length : EnvOK Tryz.prog E_i_Machine_length := (mkE_ok tab_ok mixed AllF.nil AllX.nil)
theorem ev_i_Machine_length (m : dMachine) (state : Int) : evalF E_i_Machine_length noL Tryz.f51 [.rptr tMachine, .ro false (.int .i64)] (.one false (.int .i64)) (m, state, ()) = g_i_Machine_length m state := by kernel_rfl
def m_i_Machine_length : FM := { ps := [.rptr tMachine, .ro false (.int .i64)], res := .one false (.int .i64), run := fun x => g_i_Machine_length x.1 x.2.1 }
set_option maxRecDepth 4000 in
theorem ok_i_Machine_length : FmOK Tryz.prog 51 m_i_Machine_length := @FmOK.made Tryz.prog E_i_Machine_length ek_i_Machine_length 51 Tryz.f51 noL m_i_Machine_length Tryz.func51 (by kernel_rfl) (Loops.none (by kernel_rfl)) fun ds out _ hr => by obtain ⟨m, state, ⟨⟩⟩ := ds; exact (ev_i_Machine_length m state).trans hr

def E_i_Machine_isTime : Tabs := (mkE tab [(51, m_i_Machine_length)] [])
set_option maxRecDepth 4000 in
theorem ek_i_Machine_isTime : EnvOK Tryz.prog E_i_Machine_isTime := (mkE_ok tab_ok mixed (AllF.cons ok_i_Machine_length AllF.nil) AllX.nil)
theorem ev_i_Machine_isTime (m : dMachine) (state : Int) (atx : Int) : evalF E_i_Machine_isTime noL Tryz.f33 [.rptr tMachine, .ro false (.int .i64), .ro false (.int .i64)] (.one false .bool) (m, state, atx, ()) = g_i_Machine_isTime m state atx := by kernel_rfl
def m_i_Machine_isTime : FM := { ps := [.rptr tMachine, .ro false (.int .i64), .ro false (.int .i64)], res := .one false .bool, run := fun x => g_i_Machine_isTime x.1 x.2.1 x.2.2.1 }
set_option maxRecDepth 4000 in
theorem ok_i_Machine_isTime : FmOK Tryz.prog 33 m_i_Machine_isTime := @FmOK.made Tryz.prog E_i_Machine_isTime ek_i_Machine_isTime 33 Tryz.f33 noL m_i_Machine_isTime Tryz.func33 (by kernel_rfl) (Loops.none (by kernel_rfl)) fun ds out _ hr => by obtain ⟨m, state, atx, ⟨⟩⟩ := ds; exact (ev_i_Machine_isTime m state atx).trans hr

def E_i_IsRun : Tabs := (mkE tab [(32, m_i_ValidMachine), (33, m_i_Machine_isTime)] [])
set_option maxRecDepth 4000 in
theorem ek_i_IsRun : EnvOK Tryz.prog E_i_IsRun := (mkE_ok tab_ok mixed (AllF.cons ok_i_ValidMachine (AllF.cons ok_i_Machine_isTime AllF.nil)) AllX.nil)
theorem ev_i_IsRun (m : dMachine) (r : dRun) : evalF E_i_IsRun noL Tryz.f19 [.ro true tMachine, .ro true tRun] (.one false .bool) (m, r, ()) = g_i_IsRun m r := by kernel_rfl
def m_i_IsRun : FM := { ps := [.ro true tMachine, .ro true tRun], res := .one false .bool, run := fun x => g_i_IsRun x.1 x.2.1 }
set_option maxRecDepth 4000 in
theorem ok_i_IsRun : FmOK Tryz.prog 19 m_i_IsRun := @FmOK.made Tryz.prog E_i_IsRun ek_i_IsRun 19 Tryz.f19 noL m_i_IsRun Tryz.func19 (by kernel_rfl) (Loops.none (by kernel_rfl)) fun ds out _ hr => by obtain ⟨m, r, ⟨⟩⟩ := ds; exact (ev_i_IsRun m r).trans hr



def E_i_Decimal : Tabs := (mkE tab [(52, m_formatInt)] [])
set_option maxRecDepth 4000 in
theorem ek_i_Decimal : EnvOK Tryz.prog E_i_Decimal := (mkE_ok tab_ok mixed (AllF.cons ok_formatInt AllF.nil) AllX.nil)
theorem ev_i_Decimal (n : Int) : evalF E_i_Decimal noL Tryz.f34 [.ro false (.int .i64)] (.one false .str) (n, ()) = g_i_Decimal n := by kernel_rfl
def m_i_Decimal : FM := { ps := [.ro false (.int .i64)], res := .one false .str, run := fun x => g_i_Decimal x.1 }
set_option maxRecDepth 4000 in
theorem ok_i_Decimal : FmOK Tryz.prog 34 m_i_Decimal := @FmOK.made Tryz.prog E_i_Decimal ek_i_Decimal 34 Tryz.f34 noL m_i_Decimal Tryz.func34 (by kernel_rfl) (Loops.none (by kernel_rfl)) fun ds out _ hr => by obtain ⟨n, ⟨⟩⟩ := ds; exact (ev_i_Decimal n).trans hr



def E_i_joined : Tabs := (mkE tab [(53, m_joinStr)] [])
set_option maxRecDepth 4000 in
theorem ek_i_joined : EnvOK Tryz.prog E_i_joined := (mkE_ok tab_ok mixed (AllF.cons ok_joinStr AllF.nil) AllX.nil)
theorem ev_i_joined (words : (List ByteArray)) : evalF E_i_joined noL Tryz.f35 [.ro false (.slice .str)] (.one false .str) (words, ()) = g_i_joined words := by kernel_rfl
def m_i_joined : FM := { ps := [.ro false (.slice .str)], res := .one false .str, run := fun x => g_i_joined x.1 }
set_option maxRecDepth 4000 in
theorem ok_i_joined : FmOK Tryz.prog 35 m_i_joined := @FmOK.made Tryz.prog E_i_joined ek_i_joined 35 Tryz.f35 noL m_i_joined Tryz.func35 (by kernel_rfl) (Loops.none (by kernel_rfl)) fun ds out _ hr => by obtain ⟨words, ⟨⟩⟩ := ds; exact (ev_i_joined words).trans hr

def E_i_listText : Tabs := (mkE tab [(34, m_i_Decimal), (35, m_i_joined)] [])
set_option maxRecDepth 4000 in
theorem ek_i_listText : EnvOK Tryz.prog E_i_listText := (mkE_ok tab_ok mixed (AllF.cons ok_i_Decimal (AllF.cons ok_i_joined AllF.nil)) AllX.nil)
def lm_L_i_listText_1 : LM := { mat := [], head := { slots := [(3, .cst (.sl (.row 0))), (9, .dat false (.slice (.int .i64))), (10, .dat false (.int .i64)), (11, .dat false (.int .i64))], blks := [.row false .str] }, out := { slots := [(3, .cst (.sl (.row 0)))], blks := [.row false .str] }, ex := 0, rets := false, run := iter L_i_listText_1 fuel }
def ll_i_listText : List (Nat × LP) := [(3, .lm lm_L_i_listText_1)]
theorem rd_L_i_listText_1 (rec' : ((List Int) × Int × Int × Unit) × ((List ByteArray) × Unit) → Option ((Unit) × ((List ByteArray) × Unit))) (t9 : (List Int)) (t10 : Int) (t11 : Int) (r0 : (List ByteArray)) : round E_i_listText (lookL ll_i_listText) lm_L_i_listText_1 24 (loopAt Tryz.f20 0) rec' ((t9, t10, t11, ()), (r0, ())) = L_i_listText_1 rec' ((t9, t10, t11, ()), (r0, ())) := by kernel_rfl
theorem lo_i_listText : Loops E_i_listText (lookL ll_i_listText) Tryz.f20 := Loops.list (by kernel_rfl) (by kernel_rfl) ⟨LoopOK.iter (step := L_i_listText_1) (N := fun _ => fuel) (fun rec' x => by obtain ⟨⟨t9, t10, t11, ⟨⟩⟩, ⟨r0, ⟨⟩⟩⟩ := x; exact rd_L_i_listText_1 rec' t9 t10 t11 r0) fun _ => rfl, trivial⟩
theorem ev_i_listText (list : (List Int)) : evalF E_i_listText (lookL ll_i_listText) Tryz.f20 [.ro false (.slice (.int .i64))] (.one false .str) (list, ()) = g_i_listText list := by kernel_rfl
def m_i_listText : FM := { ps := [.ro false (.slice (.int .i64))], res := .one false .str, run := fun x => g_i_listText x.1 }
set_option maxRecDepth 4000 in
theorem ok_i_listText : FmOK Tryz.prog 20 m_i_listText := @FmOK.made Tryz.prog E_i_listText ek_i_listText 20 Tryz.f20 (lookL ll_i_listText) m_i_listText Tryz.func20 (by kernel_rfl) lo_i_listText fun ds out _ hr => by obtain ⟨list, ⟨⟩⟩ := ds; exact (ev_i_listText list).trans hr

def E_i_StateText : Tabs := (mkE tab [(19, m_i_IsRun), (20, m_i_listText)] [])
set_option maxRecDepth 4000 in
theorem ek_i_StateText : EnvOK Tryz.prog E_i_StateText := (mkE_ok tab_ok mixed (AllF.cons ok_i_IsRun (AllF.cons ok_i_listText AllF.nil)) AllX.nil)
theorem ev_i_StateText (m : dMachine) (r : dRun) : evalF E_i_StateText noL Tryz.f8 [.ro true tMachine, .ro true tRun] (.tup [(false, .str), (false, .bool)]) (m, r, ()) = g_i_StateText m r := by kernel_rfl
def m_i_StateText : FM := { ps := [.ro true tMachine, .ro true tRun], res := .tup [(false, .str), (false, .bool)], run := fun x => g_i_StateText x.1 x.2.1 }
set_option maxRecDepth 4000 in
theorem ok_i_StateText : FmOK Tryz.prog 8 m_i_StateText := @FmOK.made Tryz.prog E_i_StateText ek_i_StateText 8 Tryz.f8 noL m_i_StateText Tryz.func8 (by kernel_rfl) (Loops.none (by kernel_rfl)) fun ds out _ hr => by obtain ⟨m, r, ⟨⟩⟩ := ds; exact (ev_i_StateText m r).trans hr

def E_w_sameFloat : Tabs := (mkE tab [] [])
set_option maxRecDepth 4000 in
theorem ek_w_sameFloat : EnvOK Tryz.prog E_w_sameFloat := (mkE_ok tab_ok mixed AllF.nil AllX.nil)
theorem ev_w_sameFloat (a : Nat) (b : Nat) : evalF E_w_sameFloat noL Tryz.f56 [.ro false (.flt .f64), .ro false (.flt .f64)] (.one false .bool) (a, b, ()) = g_w_sameFloat a b := by kernel_rfl
def m_w_sameFloat : FM := { ps := [.ro false (.flt .f64), .ro false (.flt .f64)], res := .one false .bool, run := fun x => some (t_w_sameFloat x.1 x.2.1) }
set_option maxRecDepth 4000 in
theorem ok_w_sameFloat : FmOK Tryz.prog 56 m_w_sameFloat := @FmOK.made Tryz.prog E_w_sameFloat ek_w_sameFloat 56 Tryz.f56 noL m_w_sameFloat Tryz.func56 (by kernel_rfl) (Loops.none (by kernel_rfl)) fun ds out _ hr => by obtain ⟨a, b, ⟨⟩⟩ := ds; exact (ev_w_sameFloat a b).trans ((q_w_sameFloat a b).trans hr)

def E_w_eqTurn : Tabs := (mkE tab [(56, m_w_sameFloat)] [])
set_option maxRecDepth 4000 in
theorem ek_w_eqTurn : EnvOK Tryz.prog E_w_eqTurn := (mkE_ok tab_ok mixed (AllF.cons ok_w_sameFloat AllF.nil) AllX.nil)
theorem ev_w_eqTurn (a : dTurn) (b : dTurn) : evalF E_w_eqTurn noL Tryz.f101 [.ro true tTurn, .ro true tTurn] (.one false .bool) (a, b, ()) = g_w_eqTurn a b := by kernel_rfl
def m_w_eqTurn : FM := { ps := [.ro true tTurn, .ro true tTurn], res := .one false .bool, run := fun x => some (t_w_eqTurn x.1 x.2.1) }
set_option maxRecDepth 4000 in
theorem ok_w_eqTurn : FmOK Tryz.prog 101 m_w_eqTurn := @FmOK.made Tryz.prog E_w_eqTurn ek_w_eqTurn 101 Tryz.f101 noL m_w_eqTurn Tryz.func101 (by kernel_rfl) (Loops.none (by kernel_rfl)) fun ds out _ hr => by obtain ⟨a, b, ⟨⟩⟩ := ds; exact (ev_w_eqTurn a b).trans ((q_w_eqTurn a b).trans hr)

def E_w_eqKey : Tabs := (mkE tab [(101, m_w_eqTurn)] [])
set_option maxRecDepth 4000 in
theorem ek_w_eqKey : EnvOK Tryz.prog E_w_eqKey := (mkE_ok tab_ok mixed (AllF.cons ok_w_eqTurn AllF.nil) AllX.nil)
theorem ev_w_eqKey (a : dKey) (b : dKey) : evalF E_w_eqKey noL Tryz.f83 [.ro true tKey, .ro true tKey] (.one false .bool) (a, b, ()) = g_w_eqKey a b := by kernel_rfl
def m_w_eqKey : FM := { ps := [.ro true tKey, .ro true tKey], res := .one false .bool, run := fun x => some (t_w_eqKey x.1 x.2.1) }
set_option maxRecDepth 4000 in
theorem ok_w_eqKey : FmOK Tryz.prog 83 m_w_eqKey := @FmOK.made Tryz.prog E_w_eqKey ek_w_eqKey 83 Tryz.f83 noL m_w_eqKey Tryz.func83 (by kernel_rfl) (Loops.none (by kernel_rfl)) fun ds out _ hr => by obtain ⟨a, b, ⟨⟩⟩ := ds; exact (ev_w_eqKey a b).trans ((q_w_eqKey a b).trans hr)

def E_w_eqKeyS : Tabs := (mkE tab [(83, m_w_eqKey)] [])
set_option maxRecDepth 4000 in
theorem ek_w_eqKeyS : EnvOK Tryz.prog E_w_eqKeyS := (mkE_ok tab_ok mixed (AllF.cons ok_w_eqKey AllF.nil) AllX.nil)
def lm_L_w_eqKeyS_1 : LM := { mat := [], head := { slots := [(0, .dat false (.slice tKey)), (1, .dat false (.slice tKey)), (4, .dat false .bool), (5, .dat false (.int .i64))], blks := [] }, out := { slots := [(4, .dat false .bool)], blks := [] }, ex := 0, rets := true, run := iter L_w_eqKeyS_1 fuel }
def ll_w_eqKeyS : List (Nat × LP) := [(4, .lm lm_L_w_eqKeyS_1)]
theorem rd_L_w_eqKeyS_1 (rec' : ((List dKey) × (List dKey) × Bool × Int × Unit) × (Unit) → Option (Bool × ((Bool × Unit) × (Unit)))) (a : (List dKey)) (b : (List dKey)) (t4 : Bool) (i : Int) : round E_w_eqKeyS (lookL ll_w_eqKeyS) lm_L_w_eqKeyS_1 27 (loopAt Tryz.f68 0) rec' ((a, b, t4, i, ()), (())) = L_w_eqKeyS_1 rec' ((a, b, t4, i, ()), (())) := by kernel_rfl
theorem lo_w_eqKeyS : Loops E_w_eqKeyS (lookL ll_w_eqKeyS) Tryz.f68 := Loops.list (by kernel_rfl) (by kernel_rfl) ⟨LoopOK.iter (step := L_w_eqKeyS_1) (N := fun _ => fuel) (fun rec' x => by obtain ⟨⟨a, b, t4, i, ⟨⟩⟩, ⟨⟨⟩⟩⟩ := x; exact rd_L_w_eqKeyS_1 rec' a b t4 i) fun _ => rfl, trivial⟩
theorem ev_w_eqKeyS (a : (List dKey)) (b : (List dKey)) : evalF E_w_eqKeyS (lookL ll_w_eqKeyS) Tryz.f68 [.ro false (.slice tKey), .ro false (.slice tKey)] (.one false .bool) (a, b, ()) = g_w_eqKeyS a b := by kernel_rfl
def m_w_eqKeyS : FM := { ps := [.ro false (.slice tKey), .ro false (.slice tKey)], res := .one false .bool, run := fun x => g_w_eqKeyS x.1 x.2.1 }
set_option maxRecDepth 4000 in
theorem ok_w_eqKeyS : FmOK Tryz.prog 68 m_w_eqKeyS := @FmOK.made Tryz.prog E_w_eqKeyS ek_w_eqKeyS 68 Tryz.f68 (lookL ll_w_eqKeyS) m_w_eqKeyS Tryz.func68 (by kernel_rfl) lo_w_eqKeyS fun ds out _ hr => by obtain ⟨a, b, ⟨⟩⟩ := ds; exact (ev_w_eqKeyS a b).trans hr

def E_w_eqKeySS : Tabs := (mkE tab [(68, m_w_eqKeyS)] [])
set_option maxRecDepth 4000 in
theorem ek_w_eqKeySS : EnvOK Tryz.prog E_w_eqKeySS := (mkE_ok tab_ok mixed (AllF.cons ok_w_eqKeyS AllF.nil) AllX.nil)
def lm_L_w_eqKeySS_1 : LM := { mat := [], head := { slots := [(0, .dat false (.slice (.slice tKey))), (1, .dat false (.slice (.slice tKey))), (4, .dat false .bool), (5, .dat false (.int .i64))], blks := [] }, out := { slots := [(4, .dat false .bool)], blks := [] }, ex := 0, rets := true, run := iter L_w_eqKeySS_1 fuel }
def ll_w_eqKeySS : List (Nat × LP) := [(4, .lm lm_L_w_eqKeySS_1)]
theorem rd_L_w_eqKeySS_1 (rec' : ((List (List dKey)) × (List (List dKey)) × Bool × Int × Unit) × (Unit) → Option (Bool × ((Bool × Unit) × (Unit)))) (a : (List (List dKey))) (b : (List (List dKey))) (t4 : Bool) (i : Int) : round E_w_eqKeySS (lookL ll_w_eqKeySS) lm_L_w_eqKeySS_1 27 (loopAt Tryz.f54 0) rec' ((a, b, t4, i, ()), (())) = L_w_eqKeySS_1 rec' ((a, b, t4, i, ()), (())) := by kernel_rfl
theorem lo_w_eqKeySS : Loops E_w_eqKeySS (lookL ll_w_eqKeySS) Tryz.f54 := Loops.list (by kernel_rfl) (by kernel_rfl) ⟨LoopOK.iter (step := L_w_eqKeySS_1) (N := fun _ => fuel) (fun rec' x => by obtain ⟨⟨a, b, t4, i, ⟨⟩⟩, ⟨⟨⟩⟩⟩ := x; exact rd_L_w_eqKeySS_1 rec' a b t4 i) fun _ => rfl, trivial⟩
theorem ev_w_eqKeySS (a : (List (List dKey))) (b : (List (List dKey))) : evalF E_w_eqKeySS (lookL ll_w_eqKeySS) Tryz.f54 [.ro false (.slice (.slice tKey)), .ro false (.slice (.slice tKey))] (.one false .bool) (a, b, ()) = g_w_eqKeySS a b := by kernel_rfl
def m_w_eqKeySS : FM := { ps := [.ro false (.slice (.slice tKey)), .ro false (.slice (.slice tKey))], res := .one false .bool, run := fun x => g_w_eqKeySS x.1 x.2.1 }
set_option maxRecDepth 4000 in
theorem ok_w_eqKeySS : FmOK Tryz.prog 54 m_w_eqKeySS := @FmOK.made Tryz.prog E_w_eqKeySS ek_w_eqKeySS 54 Tryz.f54 (lookL ll_w_eqKeySS) m_w_eqKeySS Tryz.func54 (by kernel_rfl) lo_w_eqKeySS fun ds out _ hr => by obtain ⟨a, b, ⟨⟩⟩ := ds; exact (ev_w_eqKeySS a b).trans hr

def E_w_eqVector : Tabs := (mkE tab [(56, m_w_sameFloat)] [])
set_option maxRecDepth 4000 in
theorem ek_w_eqVector : EnvOK Tryz.prog E_w_eqVector := (mkE_ok tab_ok mixed (AllF.cons ok_w_sameFloat AllF.nil) AllX.nil)
theorem ev_w_eqVector (a : dVec) (b : dVec) : evalF E_w_eqVector noL Tryz.f84 [.ro true tVec, .ro true tVec] (.one false .bool) (a, b, ()) = g_w_eqVector a b := by kernel_rfl
def m_w_eqVector : FM := { ps := [.ro true tVec, .ro true tVec], res := .one false .bool, run := fun x => some (t_w_eqVector x.1 x.2.1) }
set_option maxRecDepth 4000 in
theorem ok_w_eqVector : FmOK Tryz.prog 84 m_w_eqVector := @FmOK.made Tryz.prog E_w_eqVector ek_w_eqVector 84 Tryz.f84 noL m_w_eqVector Tryz.func84 (by kernel_rfl) (Loops.none (by kernel_rfl)) fun ds out _ hr => by obtain ⟨a, b, ⟨⟩⟩ := ds; exact (ev_w_eqVector a b).trans ((q_w_eqVector a b).trans hr)

def E_w_eqRootKey : Tabs := (mkE tab [(84, m_w_eqVector)] [])
set_option maxRecDepth 4000 in
theorem ek_w_eqRootKey : EnvOK Tryz.prog E_w_eqRootKey := (mkE_ok tab_ok mixed (AllF.cons ok_w_eqVector AllF.nil) AllX.nil)
theorem ev_w_eqRootKey (a : dRootKey) (b : dRootKey) : evalF E_w_eqRootKey noL Tryz.f69 [.ro true tRootKey, .ro true tRootKey] (.one false .bool) (a, b, ()) = g_w_eqRootKey a b := by kernel_rfl
def m_w_eqRootKey : FM := { ps := [.ro true tRootKey, .ro true tRootKey], res := .one false .bool, run := fun x => some (t_w_eqRootKey x.1 x.2.1) }
set_option maxRecDepth 4000 in
theorem ok_w_eqRootKey : FmOK Tryz.prog 69 m_w_eqRootKey := @FmOK.made Tryz.prog E_w_eqRootKey ek_w_eqRootKey 69 Tryz.f69 noL m_w_eqRootKey Tryz.func69 (by kernel_rfl) (Loops.none (by kernel_rfl)) fun ds out _ hr => by obtain ⟨a, b, ⟨⟩⟩ := ds; exact (ev_w_eqRootKey a b).trans ((q_w_eqRootKey a b).trans hr)

def E_w_eqRootKeyS : Tabs := (mkE tab [(69, m_w_eqRootKey)] [])
set_option maxRecDepth 4000 in
theorem ek_w_eqRootKeyS : EnvOK Tryz.prog E_w_eqRootKeyS := (mkE_ok tab_ok mixed (AllF.cons ok_w_eqRootKey AllF.nil) AllX.nil)
def lm_L_w_eqRootKeyS_1 : LM := { mat := [], head := { slots := [(0, .dat false (.slice tRootKey)), (1, .dat false (.slice tRootKey)), (4, .dat false .bool), (5, .dat false (.int .i64))], blks := [] }, out := { slots := [(4, .dat false .bool)], blks := [] }, ex := 0, rets := true, run := iter L_w_eqRootKeyS_1 fuel }
def ll_w_eqRootKeyS : List (Nat × LP) := [(4, .lm lm_L_w_eqRootKeyS_1)]
theorem rd_L_w_eqRootKeyS_1 (rec' : ((List dRootKey) × (List dRootKey) × Bool × Int × Unit) × (Unit) → Option (Bool × ((Bool × Unit) × (Unit)))) (a : (List dRootKey)) (b : (List dRootKey)) (t4 : Bool) (i : Int) : round E_w_eqRootKeyS (lookL ll_w_eqRootKeyS) lm_L_w_eqRootKeyS_1 27 (loopAt Tryz.f55 0) rec' ((a, b, t4, i, ()), (())) = L_w_eqRootKeyS_1 rec' ((a, b, t4, i, ()), (())) := by kernel_rfl
theorem lo_w_eqRootKeyS : Loops E_w_eqRootKeyS (lookL ll_w_eqRootKeyS) Tryz.f55 := Loops.list (by kernel_rfl) (by kernel_rfl) ⟨LoopOK.iter (step := L_w_eqRootKeyS_1) (N := fun _ => fuel) (fun rec' x => by obtain ⟨⟨a, b, t4, i, ⟨⟩⟩, ⟨⟨⟩⟩⟩ := x; exact rd_L_w_eqRootKeyS_1 rec' a b t4 i) fun _ => rfl, trivial⟩
theorem ev_w_eqRootKeyS (a : (List dRootKey)) (b : (List dRootKey)) : evalF E_w_eqRootKeyS (lookL ll_w_eqRootKeyS) Tryz.f55 [.ro false (.slice tRootKey), .ro false (.slice tRootKey)] (.one false .bool) (a, b, ()) = g_w_eqRootKeyS a b := by kernel_rfl
def m_w_eqRootKeyS : FM := { ps := [.ro false (.slice tRootKey), .ro false (.slice tRootKey)], res := .one false .bool, run := fun x => g_w_eqRootKeyS x.1 x.2.1 }
set_option maxRecDepth 4000 in
theorem ok_w_eqRootKeyS : FmOK Tryz.prog 55 m_w_eqRootKeyS := @FmOK.made Tryz.prog E_w_eqRootKeyS ek_w_eqRootKeyS 55 Tryz.f55 (lookL ll_w_eqRootKeyS) m_w_eqRootKeyS Tryz.func55 (by kernel_rfl) lo_w_eqRootKeyS fun ds out _ hr => by obtain ⟨a, b, ⟨⟩⟩ := ds; exact (ev_w_eqRootKeyS a b).trans hr

def E_w_eqClip : Tabs := (mkE tab [(54, m_w_eqKeySS), (55, m_w_eqRootKeyS)] [])
set_option maxRecDepth 4000 in
theorem ek_w_eqClip : EnvOK Tryz.prog E_w_eqClip := (mkE_ok tab_ok mixed (AllF.cons ok_w_eqKeySS (AllF.cons ok_w_eqRootKeyS AllF.nil)) AllX.nil)
theorem ev_w_eqClip (a : dClip) (b : dClip) : evalF E_w_eqClip noL Tryz.f36 [.ro true tClip, .ro true tClip] (.one false .bool) (a, b, ()) = g_w_eqClip a b := by kernel_rfl
def m_w_eqClip : FM := { ps := [.ro true tClip, .ro true tClip], res := .one false .bool, run := fun x => g_w_eqClip x.1 x.2.1 }
set_option maxRecDepth 4000 in
theorem ok_w_eqClip : FmOK Tryz.prog 36 m_w_eqClip := @FmOK.made Tryz.prog E_w_eqClip ek_w_eqClip 36 Tryz.f36 noL m_w_eqClip Tryz.func36 (by kernel_rfl) (Loops.none (by kernel_rfl)) fun ds out _ hr => by obtain ⟨a, b, ⟨⟩⟩ := ds; exact (ev_w_eqClip a b).trans hr

def E_w_eqClipS : Tabs := (mkE tab [(36, m_w_eqClip)] [])
set_option maxRecDepth 4000 in
theorem ek_w_eqClipS : EnvOK Tryz.prog E_w_eqClipS := (mkE_ok tab_ok mixed (AllF.cons ok_w_eqClip AllF.nil) AllX.nil)
def lm_L_w_eqClipS_1 : LM := { mat := [], head := { slots := [(0, .dat false (.slice tClip)), (1, .dat false (.slice tClip)), (4, .dat false .bool), (5, .dat false (.int .i64))], blks := [] }, out := { slots := [(4, .dat false .bool)], blks := [] }, ex := 0, rets := true, run := iter L_w_eqClipS_1 fuel }
def ll_w_eqClipS : List (Nat × LP) := [(4, .lm lm_L_w_eqClipS_1)]
theorem rd_L_w_eqClipS_1 (rec' : ((List dClip) × (List dClip) × Bool × Int × Unit) × (Unit) → Option (Bool × ((Bool × Unit) × (Unit)))) (a : (List dClip)) (b : (List dClip)) (t4 : Bool) (i : Int) : round E_w_eqClipS (lookL ll_w_eqClipS) lm_L_w_eqClipS_1 27 (loopAt Tryz.f21 0) rec' ((a, b, t4, i, ()), (())) = L_w_eqClipS_1 rec' ((a, b, t4, i, ()), (())) := by kernel_rfl
theorem lo_w_eqClipS : Loops E_w_eqClipS (lookL ll_w_eqClipS) Tryz.f21 := Loops.list (by kernel_rfl) (by kernel_rfl) ⟨LoopOK.iter (step := L_w_eqClipS_1) (N := fun _ => fuel) (fun rec' x => by obtain ⟨⟨a, b, t4, i, ⟨⟩⟩, ⟨⟨⟩⟩⟩ := x; exact rd_L_w_eqClipS_1 rec' a b t4 i) fun _ => rfl, trivial⟩
theorem ev_w_eqClipS (a : (List dClip)) (b : (List dClip)) : evalF E_w_eqClipS (lookL ll_w_eqClipS) Tryz.f21 [.ro false (.slice tClip), .ro false (.slice tClip)] (.one false .bool) (a, b, ()) = g_w_eqClipS a b := by kernel_rfl
def m_w_eqClipS : FM := { ps := [.ro false (.slice tClip), .ro false (.slice tClip)], res := .one false .bool, run := fun x => g_w_eqClipS x.1 x.2.1 }
set_option maxRecDepth 4000 in
theorem ok_w_eqClipS : FmOK Tryz.prog 21 m_w_eqClipS := @FmOK.made Tryz.prog E_w_eqClipS ek_w_eqClipS 21 Tryz.f21 (lookL ll_w_eqClipS) m_w_eqClipS Tryz.func21 (by kernel_rfl) lo_w_eqClipS fun ds out _ hr => by obtain ⟨a, b, ⟨⟩⟩ := ds; exact (ev_w_eqClipS a b).trans hr

def E_w_eqState : Tabs := (mkE tab [] [])
set_option maxRecDepth 4000 in
theorem ek_w_eqState : EnvOK Tryz.prog E_w_eqState := (mkE_ok tab_ok mixed AllF.nil AllX.nil)
theorem ev_w_eqState (a : dState) (b : dState) : evalF E_w_eqState noL Tryz.f37 [.ro true tState, .ro true tState] (.one false .bool) (a, b, ()) = g_w_eqState a b := by kernel_rfl
def m_w_eqState : FM := { ps := [.ro true tState, .ro true tState], res := .one false .bool, run := fun x => some (t_w_eqState x.1 x.2.1) }
set_option maxRecDepth 4000 in
theorem ok_w_eqState : FmOK Tryz.prog 37 m_w_eqState := @FmOK.made Tryz.prog E_w_eqState ek_w_eqState 37 Tryz.f37 noL m_w_eqState Tryz.func37 (by kernel_rfl) (Loops.none (by kernel_rfl)) fun ds out _ hr => by obtain ⟨a, b, ⟨⟩⟩ := ds; exact (ev_w_eqState a b).trans ((q_w_eqState a b).trans hr)

def E_w_eqStateS : Tabs := (mkE tab [(37, m_w_eqState)] [])
set_option maxRecDepth 4000 in
theorem ek_w_eqStateS : EnvOK Tryz.prog E_w_eqStateS := (mkE_ok tab_ok mixed (AllF.cons ok_w_eqState AllF.nil) AllX.nil)
def lm_L_w_eqStateS_1 : LM := { mat := [], head := { slots := [(0, .dat false (.slice tState)), (1, .dat false (.slice tState)), (4, .dat false .bool), (5, .dat false (.int .i64))], blks := [] }, out := { slots := [(4, .dat false .bool)], blks := [] }, ex := 0, rets := true, run := iter L_w_eqStateS_1 fuel }
def ll_w_eqStateS : List (Nat × LP) := [(4, .lm lm_L_w_eqStateS_1)]
theorem rd_L_w_eqStateS_1 (rec' : ((List dState) × (List dState) × Bool × Int × Unit) × (Unit) → Option (Bool × ((Bool × Unit) × (Unit)))) (a : (List dState)) (b : (List dState)) (t4 : Bool) (i : Int) : round E_w_eqStateS (lookL ll_w_eqStateS) lm_L_w_eqStateS_1 27 (loopAt Tryz.f22 0) rec' ((a, b, t4, i, ()), (())) = L_w_eqStateS_1 rec' ((a, b, t4, i, ()), (())) := by kernel_rfl
theorem lo_w_eqStateS : Loops E_w_eqStateS (lookL ll_w_eqStateS) Tryz.f22 := Loops.list (by kernel_rfl) (by kernel_rfl) ⟨LoopOK.iter (step := L_w_eqStateS_1) (N := fun _ => fuel) (fun rec' x => by obtain ⟨⟨a, b, t4, i, ⟨⟩⟩, ⟨⟨⟩⟩⟩ := x; exact rd_L_w_eqStateS_1 rec' a b t4 i) fun _ => rfl, trivial⟩
theorem ev_w_eqStateS (a : (List dState)) (b : (List dState)) : evalF E_w_eqStateS (lookL ll_w_eqStateS) Tryz.f22 [.ro false (.slice tState), .ro false (.slice tState)] (.one false .bool) (a, b, ()) = g_w_eqStateS a b := by kernel_rfl
def m_w_eqStateS : FM := { ps := [.ro false (.slice tState), .ro false (.slice tState)], res := .one false .bool, run := fun x => g_w_eqStateS x.1 x.2.1 }
set_option maxRecDepth 4000 in
theorem ok_w_eqStateS : FmOK Tryz.prog 22 m_w_eqStateS := @FmOK.made Tryz.prog E_w_eqStateS ek_w_eqStateS 22 Tryz.f22 (lookL ll_w_eqStateS) m_w_eqStateS Tryz.func22 (by kernel_rfl) lo_w_eqStateS fun ds out _ hr => by obtain ⟨a, b, ⟨⟩⟩ := ds; exact (ev_w_eqStateS a b).trans hr

def E_w_eqRule : Tabs := (mkE tab [(56, m_w_sameFloat)] [])
set_option maxRecDepth 4000 in
theorem ek_w_eqRule : EnvOK Tryz.prog E_w_eqRule := (mkE_ok tab_ok mixed (AllF.cons ok_w_sameFloat AllF.nil) AllX.nil)
theorem ev_w_eqRule (a : dRule) (b : dRule) : evalF E_w_eqRule noL Tryz.f38 [.ro true tRule, .ro true tRule] (.one false .bool) (a, b, ()) = g_w_eqRule a b := by kernel_rfl
def m_w_eqRule : FM := { ps := [.ro true tRule, .ro true tRule], res := .one false .bool, run := fun x => some (t_w_eqRule x.1 x.2.1) }
set_option maxRecDepth 4000 in
theorem ok_w_eqRule : FmOK Tryz.prog 38 m_w_eqRule := @FmOK.made Tryz.prog E_w_eqRule ek_w_eqRule 38 Tryz.f38 noL m_w_eqRule Tryz.func38 (by kernel_rfl) (Loops.none (by kernel_rfl)) fun ds out _ hr => by obtain ⟨a, b, ⟨⟩⟩ := ds; exact (ev_w_eqRule a b).trans ((q_w_eqRule a b).trans hr)

def E_w_eqRuleS : Tabs := (mkE tab [(38, m_w_eqRule)] [])
set_option maxRecDepth 4000 in
theorem ek_w_eqRuleS : EnvOK Tryz.prog E_w_eqRuleS := (mkE_ok tab_ok mixed (AllF.cons ok_w_eqRule AllF.nil) AllX.nil)
def lm_L_w_eqRuleS_1 : LM := { mat := [], head := { slots := [(0, .dat false (.slice tRule)), (1, .dat false (.slice tRule)), (4, .dat false .bool), (5, .dat false (.int .i64))], blks := [] }, out := { slots := [(4, .dat false .bool)], blks := [] }, ex := 0, rets := true, run := iter L_w_eqRuleS_1 fuel }
def ll_w_eqRuleS : List (Nat × LP) := [(4, .lm lm_L_w_eqRuleS_1)]
theorem rd_L_w_eqRuleS_1 (rec' : ((List dRule) × (List dRule) × Bool × Int × Unit) × (Unit) → Option (Bool × ((Bool × Unit) × (Unit)))) (a : (List dRule)) (b : (List dRule)) (t4 : Bool) (i : Int) : round E_w_eqRuleS (lookL ll_w_eqRuleS) lm_L_w_eqRuleS_1 27 (loopAt Tryz.f23 0) rec' ((a, b, t4, i, ()), (())) = L_w_eqRuleS_1 rec' ((a, b, t4, i, ()), (())) := by kernel_rfl
theorem lo_w_eqRuleS : Loops E_w_eqRuleS (lookL ll_w_eqRuleS) Tryz.f23 := Loops.list (by kernel_rfl) (by kernel_rfl) ⟨LoopOK.iter (step := L_w_eqRuleS_1) (N := fun _ => fuel) (fun rec' x => by obtain ⟨⟨a, b, t4, i, ⟨⟩⟩, ⟨⟨⟩⟩⟩ := x; exact rd_L_w_eqRuleS_1 rec' a b t4 i) fun _ => rfl, trivial⟩
theorem ev_w_eqRuleS (a : (List dRule)) (b : (List dRule)) : evalF E_w_eqRuleS (lookL ll_w_eqRuleS) Tryz.f23 [.ro false (.slice tRule), .ro false (.slice tRule)] (.one false .bool) (a, b, ()) = g_w_eqRuleS a b := by kernel_rfl
def m_w_eqRuleS : FM := { ps := [.ro false (.slice tRule), .ro false (.slice tRule)], res := .one false .bool, run := fun x => g_w_eqRuleS x.1 x.2.1 }
set_option maxRecDepth 4000 in
theorem ok_w_eqRuleS : FmOK Tryz.prog 23 m_w_eqRuleS := @FmOK.made Tryz.prog E_w_eqRuleS ek_w_eqRuleS 23 Tryz.f23 (lookL ll_w_eqRuleS) m_w_eqRuleS Tryz.func23 (by kernel_rfl) lo_w_eqRuleS fun ds out _ hr => by obtain ⟨a, b, ⟨⟩⟩ := ds; exact (ev_w_eqRuleS a b).trans hr

def E_w_eqMachine : Tabs := (mkE tab [(21, m_w_eqClipS), (22, m_w_eqStateS), (23, m_w_eqRuleS)] [])
set_option maxRecDepth 4000 in
theorem ek_w_eqMachine : EnvOK Tryz.prog E_w_eqMachine := (mkE_ok tab_ok mixed (AllF.cons ok_w_eqClipS (AllF.cons ok_w_eqStateS (AllF.cons ok_w_eqRuleS AllF.nil))) AllX.nil)
theorem ev_w_eqMachine (a : dMachine) (b : dMachine) : evalF E_w_eqMachine noL Tryz.f9 [.ro true tMachine, .ro true tMachine] (.one false .bool) (a, b, ()) = g_w_eqMachine a b := by kernel_rfl
def m_w_eqMachine : FM := { ps := [.ro true tMachine, .ro true tMachine], res := .one false .bool, run := fun x => g_w_eqMachine x.1 x.2.1 }
set_option maxRecDepth 4000 in
theorem ok_w_eqMachine : FmOK Tryz.prog 9 m_w_eqMachine := @FmOK.made Tryz.prog E_w_eqMachine ek_w_eqMachine 9 Tryz.f9 noL m_w_eqMachine Tryz.func9 (by kernel_rfl) (Loops.none (by kernel_rfl)) fun ds out _ hr => by obtain ⟨a, b, ⟨⟩⟩ := ds; exact (ev_w_eqMachine a b).trans hr

def E_w_FnExactStateText : Tabs := (mkE tab [(4, m_w_szMachine), (6, m_w_toMachine), (7, m_w_toRun), (5, m_s_StateText), (8, m_i_StateText), (9, m_w_eqMachine)] [])
set_option maxRecDepth 4000 in
theorem ek_w_FnExactStateText : EnvOK Tryz.prog E_w_FnExactStateText := (mkE_ok tab_ok mixed (AllF.cons ok_w_szMachine (AllF.cons ok_w_toMachine (AllF.cons ok_w_toRun (AllF.cons ok_s_StateText (AllF.cons ok_i_StateText (AllF.cons ok_w_eqMachine AllF.nil)))))) AllX.nil)
theorem ev_w_FnExactStateText (aM : dMachine) (aR : dRun) : evalF E_w_FnExactStateText noL Tryz.f3 [.ro true tMachine, .ro true tRun] (.one false .bool) (aM, aR, ()) = g_w_FnExactStateText aM aR := by kernel_rfl
end
end Go.Fw.V
