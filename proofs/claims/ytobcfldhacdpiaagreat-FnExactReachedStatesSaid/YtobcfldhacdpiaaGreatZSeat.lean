/- The functions of the translation compute what the plain functions compute. No condition. -/
import Derived.Test.YtobcfldhacdpiaaGreatZPure
import Derived.Test.YtobcfldhacdpiaaGreatProg
import Derived.Test.YtobcfldhacdpiaaGreatZLay
import Derived.KernelRfl
set_option linter.unusedVariables false
namespace Go.Fw.Z
open Go.Fw Go.Proofs Go.RowKit
noncomputable section
def tab : List (Nat × TI) := [
  (2, { und := .int .i64, size := 1, bytes := 8, zero := [.int .i64 0], ty := (.int .i64) }),
  (3, { und := .int .i64, size := 1, bytes := 8, zero := [.int .i64 0], ty := (.int .i64) }),
  (4, { und := .bool, size := 1, bytes := 1, zero := [.bool false], ty := .bool }),
  (22, { und := .slice 100, size := 1, bytes := 24, zero := [.sl .nil], ty := (.slice tClip) }),
  (23, { und := .slice 144, size := 1, bytes := 24, zero := [.sl .nil], ty := (.slice tState) }),
  (24, { und := .slice 146, size := 1, bytes := 24, zero := [.sl .nil], ty := (.slice tRule) }),
  (26, { und := .struct [(0, 22), (1, 23), (2, 24)], size := 3, bytes := 72, zero := [.sl .nil, .sl .nil, .sl .nil], ty := tMachine }),
  (34, { und := .slice 108, size := 1, bytes := 24, zero := [.sl .nil], ty := (.slice tClip) }),
  (35, { und := .slice 134, size := 1, bytes := 24, zero := [.sl .nil], ty := (.slice tState) }),
  (36, { und := .slice 132, size := 1, bytes := 24, zero := [.sl .nil], ty := (.slice tRule) }),
  (38, { und := .struct [(0, 34), (1, 35), (2, 36)], size := 3, bytes := 72, zero := [.sl .nil, .sl .nil, .sl .nil], ty := tMachine }),
  (46, { und := .flt .f32, size := 1, bytes := 4, zero := [.flt .f32 0], ty := (.flt .f32) }),
  (49, { und := .struct [(0, 46), (1, 46), (2, 46)], size := 3, bytes := 12, zero := [.flt .f32 0, .flt .f32 0, .flt .f32 0], ty := tVec }),
  (65, { und := .slice 2, size := 1, bytes := 24, zero := [.sl .nil], ty := (.slice (.int .i64)) }),
  (84, { und := .other, size := 1, bytes := 8, zero := [.pnil], ty := .unit }),
  (95, { und := .flt .f64, size := 1, bytes := 8, zero := [.flt .f64 0], ty := (.flt .f64) }),
  (97, { und := .slice 203, size := 1, bytes := 24, zero := [.sl .nil], ty := (.slice (.slice tKey)) }),
  (98, { und := .slice 214, size := 1, bytes := 24, zero := [.sl .nil], ty := (.slice tRootKey) }),
  (100, { und := .struct [(0, 2), (1, 2), (2, 97), (3, 98)], size := 4, bytes := 64, zero := [.int .i64 0, .int .i64 0, .sl .nil, .sl .nil], ty := tClip }),
  (104, { und := .other, size := 1, bytes := 8, zero := [.pnil], ty := .unit }),
  (105, { und := .slice 157, size := 1, bytes := 24, zero := [.sl .nil], ty := (.slice (.slice tKey)) }),
  (106, { und := .slice 184, size := 1, bytes := 24, zero := [.sl .nil], ty := (.slice tRootKey) }),
  (108, { und := .struct [(0, 2), (1, 2), (2, 105), (3, 106)], size := 4, bytes := 64, zero := [.int .i64 0, .int .i64 0, .sl .nil, .sl .nil], ty := tClip }),
  (114, { und := .struct [(0, 46), (1, 46), (2, 46), (3, 46)], size := 4, bytes := 16, zero := [.flt .f32 0, .flt .f32 0, .flt .f32 0, .flt .f32 0], ty := tTurn }),
  (132, { und := .struct [(0, 2), (1, 2), (2, 2), (3, 2), (4, 46), (5, 2)], size := 6, bytes := 48, zero := [.int .i64 0, .int .i64 0, .int .i64 0, .int .i64 0, .flt .f32 0, .int .i64 0], ty := tRule }),
  (134, { und := .struct [(0, 2), (1, 2), (2, 4)], size := 3, bytes := 24, zero := [.int .i64 0, .int .i64 0, .bool false], ty := tState }),
  (144, { und := .struct [(0, 2), (1, 2), (2, 4)], size := 3, bytes := 24, zero := [.int .i64 0, .int .i64 0, .bool false], ty := tState }),
  (146, { und := .struct [(0, 2), (1, 2), (2, 2), (3, 2), (4, 46), (5, 2)], size := 6, bytes := 48, zero := [.int .i64 0, .int .i64 0, .int .i64 0, .int .i64 0, .flt .f32 0, .int .i64 0], ty := tRule }),
  (157, { und := .slice 170, size := 1, bytes := 24, zero := [.sl .nil], ty := (.slice tKey) }),
  (167, { und := .other, size := 1, bytes := 8, zero := [.undef], ty := .unit }),
  (170, { und := .struct [(0, 2), (1, 114)], size := 5, bytes := 24, zero := [.int .i64 0, .flt .f32 0, .flt .f32 0, .flt .f32 0, .flt .f32 0], ty := tKey }),
  (171, { und := .other, size := 1, bytes := 8, zero := [.undef], ty := .unit }),
  (172, { und := .other, size := 1, bytes := 8, zero := [.undef], ty := .unit }),
  (173, { und := .other, size := 1, bytes := 8, zero := [.undef], ty := .unit }),
  (175, { und := .struct [(0, 171), (1, 172), (2, 173)], size := 3, bytes := 24, zero := [.undef, .undef, .undef], ty := .unit }),
  (184, { und := .struct [(0, 2), (1, 49)], size := 4, bytes := 24, zero := [.int .i64 0, .flt .f32 0, .flt .f32 0, .flt .f32 0], ty := tRootKey }),
  (193, { und := .int .u64, size := 1, bytes := 8, zero := [.int .u64 0], ty := (.int .u64) }),
  (198, { und := .other, size := 1, bytes := 8, zero := [.undef], ty := .unit }),
  (203, { und := .slice 249, size := 1, bytes := 24, zero := [.sl .nil], ty := (.slice tKey) }),
  (212, { und := .struct [(0, 46), (1, 46), (2, 46)], size := 3, bytes := 12, zero := [.flt .f32 0, .flt .f32 0, .flt .f32 0], ty := tVec }),
  (214, { und := .struct [(0, 2), (1, 212)], size := 4, bytes := 24, zero := [.int .i64 0, .flt .f32 0, .flt .f32 0, .flt .f32 0], ty := tRootKey }),
  (217, { und := .other, size := 1, bytes := 8, zero := [.undef], ty := .unit }),
  (218, { und := .other, size := 1, bytes := 8, zero := [.undef], ty := .unit }),
  (219, { und := .other, size := 1, bytes := 8, zero := [.undef], ty := .unit }),
  (221, { und := .struct [(0, 217), (1, 218), (2, 219)], size := 3, bytes := 24, zero := [.undef, .undef, .undef], ty := .unit }),
  (247, { und := .struct [(0, 46), (1, 46), (2, 46), (3, 46)], size := 4, bytes := 16, zero := [.flt .f32 0, .flt .f32 0, .flt .f32 0, .flt .f32 0], ty := tTurn }),
  (249, { und := .struct [(0, 2), (1, 247)], size := 5, bytes := 24, zero := [.int .i64 0, .flt .f32 0, .flt .f32 0, .flt .f32 0, .flt .f32 0], ty := tKey })]
theorem tab_ok : TabOK Tryz.prog (lookT tab) := tabB_spec (by kernel_rfl)
theorem mixed : Tryz.prog.follows .mixedOrders = true := by kernel_rfl
def E_w_szKeyS : Tabs := (mkE tab [] [])
set_option maxRecDepth 4000 in
theorem ek_w_szKeyS : EnvOK Tryz.prog E_w_szKeyS := (mkE_ok tab_ok mixed AllF.nil AllX.nil)
theorem ev_w_szKeyS (a : (List dKey)) (left : Int) : evalF E_w_szKeyS noL Tryz.f143 [.ro false (.slice tKey), .ro false (.int .i64)] (.one false (.int .i64)) (a, left, ()) = g_w_szKeyS a left := by kernel_rfl
def m_w_szKeyS : FM := { ps := [.ro false (.slice tKey), .ro false (.int .i64)], res := .one false (.int .i64), run := fun x => some (t_w_szKeyS x.1 x.2.1) }
set_option maxRecDepth 4000 in
theorem ok_w_szKeyS : FmOK Tryz.prog 143 m_w_szKeyS := @FmOK.made Tryz.prog E_w_szKeyS ek_w_szKeyS 143 Tryz.f143 noL m_w_szKeyS Tryz.func143 (by kernel_rfl) (Loops.none (by kernel_rfl)) fun ds out _ hr => by obtain ⟨a, left, ⟨⟩⟩ := ds; exact (ev_w_szKeyS a left).trans ((q_w_szKeyS a left).trans hr)

def E_w_szKeySS : Tabs := (mkE tab [(143, m_w_szKeyS)] [])
set_option maxRecDepth 4000 in
theorem ek_w_szKeySS : EnvOK Tryz.prog E_w_szKeySS := (mkE_ok tab_ok mixed (AllF.cons ok_w_szKeyS AllF.nil) AllX.nil)
def lm_L_w_szKeySS_1 : LM := { mat := [], head := { slots := [(0, .dat false (.slice (.slice tKey))), (1, .dat false (.int .i64)), (4, .dat false (.int .i64)), (5, .dat false (.int .i64))], blks := [] }, out := { slots := [(1, .dat false (.int .i64)), (4, .dat false (.int .i64))], blks := [] }, ex := 0, rets := true, run := iter L_w_szKeySS_1 fuel }
def ll_w_szKeySS : List (Nat × LP) := [(5, .lm lm_L_w_szKeySS_1)]
theorem rd_L_w_szKeySS_1 (rec' : ((List (List dKey)) × Int × Int × Int × Unit) × (Unit) → Option (Bool × ((Int × Int × Unit) × (Unit)))) (a : (List (List dKey))) (left : Int) (t4 : Int) (i : Int) : round E_w_szKeySS (lookL ll_w_szKeySS) lm_L_w_szKeySS_1 27 (loopAt Tryz.f101 0) rec' ((a, left, t4, i, ()), (())) = L_w_szKeySS_1 rec' ((a, left, t4, i, ()), (())) := by kernel_rfl
theorem lo_w_szKeySS : Loops E_w_szKeySS (lookL ll_w_szKeySS) Tryz.f101 := Loops.list (by kernel_rfl) (by kernel_rfl) ⟨LoopOK.iter (step := L_w_szKeySS_1) (N := fun _ => fuel) (fun rec' x => by obtain ⟨⟨a, left, t4, i, ⟨⟩⟩, ⟨⟨⟩⟩⟩ := x; exact rd_L_w_szKeySS_1 rec' a left t4 i) fun _ => rfl, trivial⟩
theorem ev_w_szKeySS (a : (List (List dKey))) (left : Int) : evalF E_w_szKeySS (lookL ll_w_szKeySS) Tryz.f101 [.ro false (.slice (.slice tKey)), .ro false (.int .i64)] (.one false (.int .i64)) (a, left, ()) = g_w_szKeySS a left := by kernel_rfl
def m_w_szKeySS : FM := { ps := [.ro false (.slice (.slice tKey)), .ro false (.int .i64)], res := .one false (.int .i64), run := fun x => g_w_szKeySS x.1 x.2.1 }
set_option maxRecDepth 4000 in
theorem ok_w_szKeySS : FmOK Tryz.prog 101 m_w_szKeySS := @FmOK.made Tryz.prog E_w_szKeySS ek_w_szKeySS 101 Tryz.f101 (lookL ll_w_szKeySS) m_w_szKeySS Tryz.func101 (by kernel_rfl) lo_w_szKeySS fun ds out _ hr => by obtain ⟨a, left, ⟨⟩⟩ := ds; exact (ev_w_szKeySS a left).trans hr

def E_w_szRootKeyS : Tabs := (mkE tab [] [])
set_option maxRecDepth 4000 in
theorem ek_w_szRootKeyS : EnvOK Tryz.prog E_w_szRootKeyS := (mkE_ok tab_ok mixed AllF.nil AllX.nil)
theorem ev_w_szRootKeyS (a : (List dRootKey)) (left : Int) : evalF E_w_szRootKeyS noL Tryz.f102 [.ro false (.slice tRootKey), .ro false (.int .i64)] (.one false (.int .i64)) (a, left, ()) = g_w_szRootKeyS a left := by kernel_rfl
def m_w_szRootKeyS : FM := { ps := [.ro false (.slice tRootKey), .ro false (.int .i64)], res := .one false (.int .i64), run := fun x => some (t_w_szRootKeyS x.1 x.2.1) }
set_option maxRecDepth 4000 in
theorem ok_w_szRootKeyS : FmOK Tryz.prog 102 m_w_szRootKeyS := @FmOK.made Tryz.prog E_w_szRootKeyS ek_w_szRootKeyS 102 Tryz.f102 noL m_w_szRootKeyS Tryz.func102 (by kernel_rfl) (Loops.none (by kernel_rfl)) fun ds out _ hr => by obtain ⟨a, left, ⟨⟩⟩ := ds; exact (ev_w_szRootKeyS a left).trans ((q_w_szRootKeyS a left).trans hr)

def E_w_szClip : Tabs := (mkE tab [(101, m_w_szKeySS), (102, m_w_szRootKeyS)] [])
set_option maxRecDepth 4000 in
theorem ek_w_szClip : EnvOK Tryz.prog E_w_szClip := (mkE_ok tab_ok mixed (AllF.cons ok_w_szKeySS (AllF.cons ok_w_szRootKeyS AllF.nil)) AllX.nil)
theorem ev_w_szClip (a : dClip) (left : Int) : evalF E_w_szClip noL Tryz.f56 [.ro true tClip, .ro false (.int .i64)] (.one false (.int .i64)) (a, left, ()) = g_w_szClip a left := by kernel_rfl
def m_w_szClip : FM := { ps := [.ro true tClip, .ro false (.int .i64)], res := .one false (.int .i64), run := fun x => g_w_szClip x.1 x.2.1 }
set_option maxRecDepth 4000 in
theorem ok_w_szClip : FmOK Tryz.prog 56 m_w_szClip := @FmOK.made Tryz.prog E_w_szClip ek_w_szClip 56 Tryz.f56 noL m_w_szClip Tryz.func56 (by kernel_rfl) (Loops.none (by kernel_rfl)) fun ds out _ hr => by obtain ⟨a, left, ⟨⟩⟩ := ds; exact (ev_w_szClip a left).trans hr

def E_w_szClipS : Tabs := (mkE tab [(56, m_w_szClip)] [])
set_option maxRecDepth 4000 in
theorem ek_w_szClipS : EnvOK Tryz.prog E_w_szClipS := (mkE_ok tab_ok mixed (AllF.cons ok_w_szClip AllF.nil) AllX.nil)
def lm_L_w_szClipS_1 : LM := { mat := [], head := { slots := [(0, .dat false (.slice tClip)), (1, .dat false (.int .i64)), (4, .dat false (.int .i64)), (5, .dat false (.int .i64))], blks := [] }, out := { slots := [(1, .dat false (.int .i64)), (4, .dat false (.int .i64))], blks := [] }, ex := 0, rets := true, run := iter L_w_szClipS_1 fuel }
def ll_w_szClipS : List (Nat × LP) := [(5, .lm lm_L_w_szClipS_1)]
theorem rd_L_w_szClipS_1 (rec' : ((List dClip) × Int × Int × Int × Unit) × (Unit) → Option (Bool × ((Int × Int × Unit) × (Unit)))) (a : (List dClip)) (left : Int) (t4 : Int) (i : Int) : round E_w_szClipS (lookL ll_w_szClipS) lm_L_w_szClipS_1 27 (loopAt Tryz.f17 0) rec' ((a, left, t4, i, ()), (())) = L_w_szClipS_1 rec' ((a, left, t4, i, ()), (())) := by kernel_rfl
theorem lo_w_szClipS : Loops E_w_szClipS (lookL ll_w_szClipS) Tryz.f17 := Loops.list (by kernel_rfl) (by kernel_rfl) ⟨LoopOK.iter (step := L_w_szClipS_1) (N := fun _ => fuel) (fun rec' x => by obtain ⟨⟨a, left, t4, i, ⟨⟩⟩, ⟨⟨⟩⟩⟩ := x; exact rd_L_w_szClipS_1 rec' a left t4 i) fun _ => rfl, trivial⟩
theorem ev_w_szClipS (a : (List dClip)) (left : Int) : evalF E_w_szClipS (lookL ll_w_szClipS) Tryz.f17 [.ro false (.slice tClip), .ro false (.int .i64)] (.one false (.int .i64)) (a, left, ()) = g_w_szClipS a left := by kernel_rfl
def m_w_szClipS : FM := { ps := [.ro false (.slice tClip), .ro false (.int .i64)], res := .one false (.int .i64), run := fun x => g_w_szClipS x.1 x.2.1 }
set_option maxRecDepth 4000 in
theorem ok_w_szClipS : FmOK Tryz.prog 17 m_w_szClipS := @FmOK.made Tryz.prog E_w_szClipS ek_w_szClipS 17 Tryz.f17 (lookL ll_w_szClipS) m_w_szClipS Tryz.func17 (by kernel_rfl) lo_w_szClipS fun ds out _ hr => by obtain ⟨a, left, ⟨⟩⟩ := ds; exact (ev_w_szClipS a left).trans hr

def E_w_szStateS : Tabs := (mkE tab [] [])
set_option maxRecDepth 4000 in
theorem ek_w_szStateS : EnvOK Tryz.prog E_w_szStateS := (mkE_ok tab_ok mixed AllF.nil AllX.nil)
theorem ev_w_szStateS (a : (List dState)) (left : Int) : evalF E_w_szStateS noL Tryz.f44 [.ro false (.slice tState), .ro false (.int .i64)] (.one false (.int .i64)) (a, left, ()) = g_w_szStateS a left := by kernel_rfl
def m_w_szStateS : FM := { ps := [.ro false (.slice tState), .ro false (.int .i64)], res := .one false (.int .i64), run := fun x => some (t_w_szStateS x.1 x.2.1) }
set_option maxRecDepth 4000 in
theorem ok_w_szStateS : FmOK Tryz.prog 44 m_w_szStateS := @FmOK.made Tryz.prog E_w_szStateS ek_w_szStateS 44 Tryz.f44 noL m_w_szStateS Tryz.func44 (by kernel_rfl) (Loops.none (by kernel_rfl)) fun ds out _ hr => by obtain ⟨a, left, ⟨⟩⟩ := ds; exact (ev_w_szStateS a left).trans ((q_w_szStateS a left).trans hr)

def E_w_szRuleS : Tabs := (mkE tab [] [])
set_option maxRecDepth 4000 in
theorem ek_w_szRuleS : EnvOK Tryz.prog E_w_szRuleS := (mkE_ok tab_ok mixed AllF.nil AllX.nil)
theorem ev_w_szRuleS (a : (List dRule)) (left : Int) : evalF E_w_szRuleS noL Tryz.f45 [.ro false (.slice tRule), .ro false (.int .i64)] (.one false (.int .i64)) (a, left, ()) = g_w_szRuleS a left := by kernel_rfl
def m_w_szRuleS : FM := { ps := [.ro false (.slice tRule), .ro false (.int .i64)], res := .one false (.int .i64), run := fun x => some (t_w_szRuleS x.1 x.2.1) }
set_option maxRecDepth 4000 in
theorem ok_w_szRuleS : FmOK Tryz.prog 45 m_w_szRuleS := @FmOK.made Tryz.prog E_w_szRuleS ek_w_szRuleS 45 Tryz.f45 noL m_w_szRuleS Tryz.func45 (by kernel_rfl) (Loops.none (by kernel_rfl)) fun ds out _ hr => by obtain ⟨a, left, ⟨⟩⟩ := ds; exact (ev_w_szRuleS a left).trans ((q_w_szRuleS a left).trans hr)

def E_w_szMachine : Tabs := (mkE tab [(17, m_w_szClipS), (44, m_w_szStateS), (45, m_w_szRuleS)] [])
set_option maxRecDepth 4000 in
theorem ek_w_szMachine : EnvOK Tryz.prog E_w_szMachine := (mkE_ok tab_ok mixed (AllF.cons ok_w_szClipS (AllF.cons ok_w_szStateS (AllF.cons ok_w_szRuleS AllF.nil))) AllX.nil)
theorem ev_w_szMachine (a : dMachine) (left : Int) : evalF E_w_szMachine noL Tryz.f8 [.ro true tMachine, .ro false (.int .i64)] (.one false (.int .i64)) (a, left, ()) = g_w_szMachine a left := by kernel_rfl
def m_w_szMachine : FM := { ps := [.ro true tMachine, .ro false (.int .i64)], res := .one false (.int .i64), run := fun x => g_w_szMachine x.1 x.2.1 }
set_option maxRecDepth 4000 in
theorem ok_w_szMachine : FmOK Tryz.prog 8 m_w_szMachine := @FmOK.made Tryz.prog E_w_szMachine ek_w_szMachine 8 Tryz.f8 noL m_w_szMachine Tryz.func8 (by kernel_rfl) (Loops.none (by kernel_rfl)) fun ds out _ hr => by obtain ⟨a, left, ⟨⟩⟩ := ds; exact (ev_w_szMachine a left).trans hr

def E_w_toTurn : Tabs := (mkE tab [] [])
set_option maxRecDepth 4000 in
theorem ek_w_toTurn : EnvOK Tryz.prog E_w_toTurn := (mkE_ok tab_ok mixed AllF.nil AllX.nil)
theorem ev_w_toTurn (a : dTurn) : evalF E_w_toTurn noL Tryz.f204 [.ro true tTurn] (.one true tTurn) (a, ()) = g_w_toTurn a := by kernel_rfl
def m_w_toTurn : FM := { ps := [.ro true tTurn], res := .one true tTurn, run := fun x => some (t_w_toTurn x.1) }
set_option maxRecDepth 4000 in
theorem ok_w_toTurn : FmOK Tryz.prog 204 m_w_toTurn := @FmOK.made Tryz.prog E_w_toTurn ek_w_toTurn 204 Tryz.f204 noL m_w_toTurn Tryz.func204 (by kernel_rfl) (Loops.none (by kernel_rfl)) fun ds out _ hr => by obtain ⟨a, ⟨⟩⟩ := ds; exact (ev_w_toTurn a).trans ((q_w_toTurn a).trans hr)

def E_w_toKey : Tabs := (mkE tab [(204, m_w_toTurn)] [])
set_option maxRecDepth 4000 in
theorem ek_w_toKey : EnvOK Tryz.prog E_w_toKey := (mkE_ok tab_ok mixed (AllF.cons ok_w_toTurn AllF.nil) AllX.nil)
theorem ev_w_toKey (a : dKey) : evalF E_w_toKey noL Tryz.f185 [.ro true tKey] (.one true tKey) (a, ()) = g_w_toKey a := by kernel_rfl
def m_w_toKey : FM := { ps := [.ro true tKey], res := .one true tKey, run := fun x => some (t_w_toKey x.1) }
set_option maxRecDepth 4000 in
theorem ok_w_toKey : FmOK Tryz.prog 185 m_w_toKey := @FmOK.made Tryz.prog E_w_toKey ek_w_toKey 185 Tryz.f185 noL m_w_toKey Tryz.func185 (by kernel_rfl) (Loops.none (by kernel_rfl)) fun ds out _ hr => by obtain ⟨a, ⟨⟩⟩ := ds; exact (ev_w_toKey a).trans ((q_w_toKey a).trans hr)

def E_w_toKeyS : Tabs := (mkE tab [(185, m_w_toKey)] [])
set_option maxRecDepth 4000 in
theorem ek_w_toKeyS : EnvOK Tryz.prog E_w_toKeyS := (mkE_ok tab_ok mixed (AllF.cons ok_w_toKey AllF.nil) AllX.nil)
def lm_L_w_toKeyS_1 : LM := { mat := [], head := { slots := [(0, .dat false (.slice tKey)), (3, .cst (.sl (.row 0))), (4, .dat false (.int .i64))], blks := [.row false tKey] }, out := { slots := [(3, .cst (.sl (.row 0)))], blks := [.row false tKey] }, ex := 0, rets := false, run := iter L_w_toKeyS_1 fuel }
def ll_w_toKeyS : List (Nat × LP) := [(3, .lm lm_L_w_toKeyS_1)]
theorem rd_L_w_toKeyS_1 (rec' : ((List dKey) × Int × Unit) × ((List dKey) × Unit) → Option ((Unit) × ((List dKey) × Unit))) (a : (List dKey)) (i : Int) (r0 : (List dKey)) : round E_w_toKeyS (lookL ll_w_toKeyS) lm_L_w_toKeyS_1 23 (loopAt Tryz.f150 0) rec' ((a, i, ()), (r0, ())) = L_w_toKeyS_1 rec' ((a, i, ()), (r0, ())) := by kernel_rfl
theorem lo_w_toKeyS : Loops E_w_toKeyS (lookL ll_w_toKeyS) Tryz.f150 := Loops.list (by kernel_rfl) (by kernel_rfl) ⟨LoopOK.iter (step := L_w_toKeyS_1) (N := fun _ => fuel) (fun rec' x => by obtain ⟨⟨a, i, ⟨⟩⟩, ⟨r0, ⟨⟩⟩⟩ := x; exact rd_L_w_toKeyS_1 rec' a i r0) fun _ => rfl, trivial⟩
theorem ev_w_toKeyS (a : (List dKey)) : evalF E_w_toKeyS (lookL ll_w_toKeyS) Tryz.f150 [.ro false (.slice tKey)] (.one false (.slice tKey)) (a, ()) = g_w_toKeyS a := by kernel_rfl
def m_w_toKeyS : FM := { ps := [.ro false (.slice tKey)], res := .one false (.slice tKey), run := fun x => g_w_toKeyS x.1 }
set_option maxRecDepth 4000 in
theorem ok_w_toKeyS : FmOK Tryz.prog 150 m_w_toKeyS := @FmOK.made Tryz.prog E_w_toKeyS ek_w_toKeyS 150 Tryz.f150 (lookL ll_w_toKeyS) m_w_toKeyS Tryz.func150 (by kernel_rfl) lo_w_toKeyS fun ds out _ hr => by obtain ⟨a, ⟨⟩⟩ := ds; exact (ev_w_toKeyS a).trans hr

def E_w_toKeySS : Tabs := (mkE tab [(150, m_w_toKeyS)] [])
set_option maxRecDepth 4000 in
theorem ek_w_toKeySS : EnvOK Tryz.prog E_w_toKeySS := (mkE_ok tab_ok mixed (AllF.cons ok_w_toKeyS AllF.nil) AllX.nil)
def lm_L_w_toKeySS_1 : LM := { mat := [], head := { slots := [(0, .dat false (.slice (.slice tKey))), (3, .cst (.sl (.row 0))), (4, .dat false (.int .i64))], blks := [.row false (.slice tKey)] }, out := { slots := [(3, .cst (.sl (.row 0)))], blks := [.row false (.slice tKey)] }, ex := 0, rets := false, run := iter L_w_toKeySS_1 fuel }
def ll_w_toKeySS : List (Nat × LP) := [(3, .lm lm_L_w_toKeySS_1)]
theorem rd_L_w_toKeySS_1 (rec' : ((List (List dKey)) × Int × Unit) × ((List (List dKey)) × Unit) → Option ((Unit) × ((List (List dKey)) × Unit))) (a : (List (List dKey))) (i : Int) (r0 : (List (List dKey))) : round E_w_toKeySS (lookL ll_w_toKeySS) lm_L_w_toKeySS_1 23 (loopAt Tryz.f112 0) rec' ((a, i, ()), (r0, ())) = L_w_toKeySS_1 rec' ((a, i, ()), (r0, ())) := by kernel_rfl
theorem lo_w_toKeySS : Loops E_w_toKeySS (lookL ll_w_toKeySS) Tryz.f112 := Loops.list (by kernel_rfl) (by kernel_rfl) ⟨LoopOK.iter (step := L_w_toKeySS_1) (N := fun _ => fuel) (fun rec' x => by obtain ⟨⟨a, i, ⟨⟩⟩, ⟨r0, ⟨⟩⟩⟩ := x; exact rd_L_w_toKeySS_1 rec' a i r0) fun _ => rfl, trivial⟩
theorem ev_w_toKeySS (a : (List (List dKey))) : evalF E_w_toKeySS (lookL ll_w_toKeySS) Tryz.f112 [.ro false (.slice (.slice tKey))] (.one false (.slice (.slice tKey))) (a, ()) = g_w_toKeySS a := by kernel_rfl
def m_w_toKeySS : FM := { ps := [.ro false (.slice (.slice tKey))], res := .one false (.slice (.slice tKey)), run := fun x => g_w_toKeySS x.1 }
set_option maxRecDepth 4000 in
theorem ok_w_toKeySS : FmOK Tryz.prog 112 m_w_toKeySS := @FmOK.made Tryz.prog E_w_toKeySS ek_w_toKeySS 112 Tryz.f112 (lookL ll_w_toKeySS) m_w_toKeySS Tryz.func112 (by kernel_rfl) lo_w_toKeySS fun ds out _ hr => by obtain ⟨a, ⟨⟩⟩ := ds; exact (ev_w_toKeySS a).trans hr

def E_w_toVector : Tabs := (mkE tab [] [])
set_option maxRecDepth 4000 in
theorem ek_w_toVector : EnvOK Tryz.prog E_w_toVector := (mkE_ok tab_ok mixed AllF.nil AllX.nil)
theorem ev_w_toVector (a : dVec) : evalF E_w_toVector noL Tryz.f186 [.ro true tVec] (.one true tVec) (a, ()) = g_w_toVector a := by kernel_rfl
def m_w_toVector : FM := { ps := [.ro true tVec], res := .one true tVec, run := fun x => some (t_w_toVector x.1) }
set_option maxRecDepth 4000 in
theorem ok_w_toVector : FmOK Tryz.prog 186 m_w_toVector := @FmOK.made Tryz.prog E_w_toVector ek_w_toVector 186 Tryz.f186 noL m_w_toVector Tryz.func186 (by kernel_rfl) (Loops.none (by kernel_rfl)) fun ds out _ hr => by obtain ⟨a, ⟨⟩⟩ := ds; exact (ev_w_toVector a).trans ((q_w_toVector a).trans hr)

def E_w_toRootKey : Tabs := (mkE tab [(186, m_w_toVector)] [])
set_option maxRecDepth 4000 in
theorem ek_w_toRootKey : EnvOK Tryz.prog E_w_toRootKey := (mkE_ok tab_ok mixed (AllF.cons ok_w_toVector AllF.nil) AllX.nil)
theorem ev_w_toRootKey (a : dRootKey) : evalF E_w_toRootKey noL Tryz.f151 [.ro true tRootKey] (.one true tRootKey) (a, ()) = g_w_toRootKey a := by kernel_rfl
def m_w_toRootKey : FM := { ps := [.ro true tRootKey], res := .one true tRootKey, run := fun x => some (t_w_toRootKey x.1) }
set_option maxRecDepth 4000 in
theorem ok_w_toRootKey : FmOK Tryz.prog 151 m_w_toRootKey := @FmOK.made Tryz.prog E_w_toRootKey ek_w_toRootKey 151 Tryz.f151 noL m_w_toRootKey Tryz.func151 (by kernel_rfl) (Loops.none (by kernel_rfl)) fun ds out _ hr => by obtain ⟨a, ⟨⟩⟩ := ds; exact (ev_w_toRootKey a).trans ((q_w_toRootKey a).trans hr)

def E_w_toRootKeyS : Tabs := (mkE tab [(151, m_w_toRootKey)] [])
set_option maxRecDepth 4000 in
theorem ek_w_toRootKeyS : EnvOK Tryz.prog E_w_toRootKeyS := (mkE_ok tab_ok mixed (AllF.cons ok_w_toRootKey AllF.nil) AllX.nil)
def lm_L_w_toRootKeyS_1 : LM := { mat := [], head := { slots := [(0, .dat false (.slice tRootKey)), (3, .cst (.sl (.row 0))), (4, .dat false (.int .i64))], blks := [.row false tRootKey] }, out := { slots := [(3, .cst (.sl (.row 0)))], blks := [.row false tRootKey] }, ex := 0, rets := false, run := iter L_w_toRootKeyS_1 fuel }
def ll_w_toRootKeyS : List (Nat × LP) := [(3, .lm lm_L_w_toRootKeyS_1)]
theorem rd_L_w_toRootKeyS_1 (rec' : ((List dRootKey) × Int × Unit) × ((List dRootKey) × Unit) → Option ((Unit) × ((List dRootKey) × Unit))) (a : (List dRootKey)) (i : Int) (r0 : (List dRootKey)) : round E_w_toRootKeyS (lookL ll_w_toRootKeyS) lm_L_w_toRootKeyS_1 23 (loopAt Tryz.f113 0) rec' ((a, i, ()), (r0, ())) = L_w_toRootKeyS_1 rec' ((a, i, ()), (r0, ())) := by kernel_rfl
theorem lo_w_toRootKeyS : Loops E_w_toRootKeyS (lookL ll_w_toRootKeyS) Tryz.f113 := Loops.list (by kernel_rfl) (by kernel_rfl) ⟨LoopOK.iter (step := L_w_toRootKeyS_1) (N := fun _ => fuel) (fun rec' x => by obtain ⟨⟨a, i, ⟨⟩⟩, ⟨r0, ⟨⟩⟩⟩ := x; exact rd_L_w_toRootKeyS_1 rec' a i r0) fun _ => rfl, trivial⟩
theorem ev_w_toRootKeyS (a : (List dRootKey)) : evalF E_w_toRootKeyS (lookL ll_w_toRootKeyS) Tryz.f113 [.ro false (.slice tRootKey)] (.one false (.slice tRootKey)) (a, ()) = g_w_toRootKeyS a := by kernel_rfl
def m_w_toRootKeyS : FM := { ps := [.ro false (.slice tRootKey)], res := .one false (.slice tRootKey), run := fun x => g_w_toRootKeyS x.1 }
set_option maxRecDepth 4000 in
theorem ok_w_toRootKeyS : FmOK Tryz.prog 113 m_w_toRootKeyS := @FmOK.made Tryz.prog E_w_toRootKeyS ek_w_toRootKeyS 113 Tryz.f113 (lookL ll_w_toRootKeyS) m_w_toRootKeyS Tryz.func113 (by kernel_rfl) lo_w_toRootKeyS fun ds out _ hr => by obtain ⟨a, ⟨⟩⟩ := ds; exact (ev_w_toRootKeyS a).trans hr

def E_w_toClip : Tabs := (mkE tab [(112, m_w_toKeySS), (113, m_w_toRootKeyS)] [])
set_option maxRecDepth 4000 in
theorem ek_w_toClip : EnvOK Tryz.prog E_w_toClip := (mkE_ok tab_ok mixed (AllF.cons ok_w_toKeySS (AllF.cons ok_w_toRootKeyS AllF.nil)) AllX.nil)
theorem ev_w_toClip (a : dClip) : evalF E_w_toClip noL Tryz.f65 [.ro true tClip] (.one true tClip) (a, ()) = g_w_toClip a := by kernel_rfl
def m_w_toClip : FM := { ps := [.ro true tClip], res := .one true tClip, run := fun x => g_w_toClip x.1 }
set_option maxRecDepth 4000 in
theorem ok_w_toClip : FmOK Tryz.prog 65 m_w_toClip := @FmOK.made Tryz.prog E_w_toClip ek_w_toClip 65 Tryz.f65 noL m_w_toClip Tryz.func65 (by kernel_rfl) (Loops.none (by kernel_rfl)) fun ds out _ hr => by obtain ⟨a, ⟨⟩⟩ := ds; exact (ev_w_toClip a).trans hr

def E_w_toClipS : Tabs := (mkE tab [(65, m_w_toClip)] [])
set_option maxRecDepth 4000 in
theorem ek_w_toClipS : EnvOK Tryz.prog E_w_toClipS := (mkE_ok tab_ok mixed (AllF.cons ok_w_toClip AllF.nil) AllX.nil)
def lm_L_w_toClipS_1 : LM := { mat := [], head := { slots := [(0, .dat false (.slice tClip)), (3, .cst (.sl (.row 0))), (4, .dat false (.int .i64))], blks := [.row false tClip] }, out := { slots := [(3, .cst (.sl (.row 0)))], blks := [.row false tClip] }, ex := 0, rets := false, run := iter L_w_toClipS_1 fuel }
def ll_w_toClipS : List (Nat × LP) := [(3, .lm lm_L_w_toClipS_1)]
theorem rd_L_w_toClipS_1 (rec' : ((List dClip) × Int × Unit) × ((List dClip) × Unit) → Option ((Unit) × ((List dClip) × Unit))) (a : (List dClip)) (i : Int) (r0 : (List dClip)) : round E_w_toClipS (lookL ll_w_toClipS) lm_L_w_toClipS_1 23 (loopAt Tryz.f19 0) rec' ((a, i, ()), (r0, ())) = L_w_toClipS_1 rec' ((a, i, ()), (r0, ())) := by kernel_rfl
theorem lo_w_toClipS : Loops E_w_toClipS (lookL ll_w_toClipS) Tryz.f19 := Loops.list (by kernel_rfl) (by kernel_rfl) ⟨LoopOK.iter (step := L_w_toClipS_1) (N := fun _ => fuel) (fun rec' x => by obtain ⟨⟨a, i, ⟨⟩⟩, ⟨r0, ⟨⟩⟩⟩ := x; exact rd_L_w_toClipS_1 rec' a i r0) fun _ => rfl, trivial⟩
theorem ev_w_toClipS (a : (List dClip)) : evalF E_w_toClipS (lookL ll_w_toClipS) Tryz.f19 [.ro false (.slice tClip)] (.one false (.slice tClip)) (a, ()) = g_w_toClipS a := by kernel_rfl
def m_w_toClipS : FM := { ps := [.ro false (.slice tClip)], res := .one false (.slice tClip), run := fun x => g_w_toClipS x.1 }
set_option maxRecDepth 4000 in
theorem ok_w_toClipS : FmOK Tryz.prog 19 m_w_toClipS := @FmOK.made Tryz.prog E_w_toClipS ek_w_toClipS 19 Tryz.f19 (lookL ll_w_toClipS) m_w_toClipS Tryz.func19 (by kernel_rfl) lo_w_toClipS fun ds out _ hr => by obtain ⟨a, ⟨⟩⟩ := ds; exact (ev_w_toClipS a).trans hr

def E_w_toState : Tabs := (mkE tab [] [])
set_option maxRecDepth 4000 in
theorem ek_w_toState : EnvOK Tryz.prog E_w_toState := (mkE_ok tab_ok mixed AllF.nil AllX.nil)
theorem ev_w_toState (a : dState) : evalF E_w_toState noL Tryz.f93 [.ro true tState] (.one true tState) (a, ()) = g_w_toState a := by kernel_rfl
def m_w_toState : FM := { ps := [.ro true tState], res := .one true tState, run := fun x => some (t_w_toState x.1) }
set_option maxRecDepth 4000 in
theorem ok_w_toState : FmOK Tryz.prog 93 m_w_toState := @FmOK.made Tryz.prog E_w_toState ek_w_toState 93 Tryz.f93 noL m_w_toState Tryz.func93 (by kernel_rfl) (Loops.none (by kernel_rfl)) fun ds out _ hr => by obtain ⟨a, ⟨⟩⟩ := ds; exact (ev_w_toState a).trans ((q_w_toState a).trans hr)

def E_w_toStateS : Tabs := (mkE tab [(93, m_w_toState)] [])
set_option maxRecDepth 4000 in
theorem ek_w_toStateS : EnvOK Tryz.prog E_w_toStateS := (mkE_ok tab_ok mixed (AllF.cons ok_w_toState AllF.nil) AllX.nil)
def lm_L_w_toStateS_1 : LM := { mat := [], head := { slots := [(0, .dat false (.slice tState)), (3, .cst (.sl (.row 0))), (4, .dat false (.int .i64))], blks := [.row false tState] }, out := { slots := [(3, .cst (.sl (.row 0)))], blks := [.row false tState] }, ex := 0, rets := false, run := iter L_w_toStateS_1 fuel }
def ll_w_toStateS : List (Nat × LP) := [(3, .lm lm_L_w_toStateS_1)]
theorem rd_L_w_toStateS_1 (rec' : ((List dState) × Int × Unit) × ((List dState) × Unit) → Option ((Unit) × ((List dState) × Unit))) (a : (List dState)) (i : Int) (r0 : (List dState)) : round E_w_toStateS (lookL ll_w_toStateS) lm_L_w_toStateS_1 23 (loopAt Tryz.f49 0) rec' ((a, i, ()), (r0, ())) = L_w_toStateS_1 rec' ((a, i, ()), (r0, ())) := by kernel_rfl
theorem lo_w_toStateS : Loops E_w_toStateS (lookL ll_w_toStateS) Tryz.f49 := Loops.list (by kernel_rfl) (by kernel_rfl) ⟨LoopOK.iter (step := L_w_toStateS_1) (N := fun _ => fuel) (fun rec' x => by obtain ⟨⟨a, i, ⟨⟩⟩, ⟨r0, ⟨⟩⟩⟩ := x; exact rd_L_w_toStateS_1 rec' a i r0) fun _ => rfl, trivial⟩
theorem ev_w_toStateS (a : (List dState)) : evalF E_w_toStateS (lookL ll_w_toStateS) Tryz.f49 [.ro false (.slice tState)] (.one false (.slice tState)) (a, ()) = g_w_toStateS a := by kernel_rfl
def m_w_toStateS : FM := { ps := [.ro false (.slice tState)], res := .one false (.slice tState), run := fun x => g_w_toStateS x.1 }
set_option maxRecDepth 4000 in
theorem ok_w_toStateS : FmOK Tryz.prog 49 m_w_toStateS := @FmOK.made Tryz.prog E_w_toStateS ek_w_toStateS 49 Tryz.f49 (lookL ll_w_toStateS) m_w_toStateS Tryz.func49 (by kernel_rfl) lo_w_toStateS fun ds out _ hr => by obtain ⟨a, ⟨⟩⟩ := ds; exact (ev_w_toStateS a).trans hr

def E_w_toRule : Tabs := (mkE tab [] [])
set_option maxRecDepth 4000 in
theorem ek_w_toRule : EnvOK Tryz.prog E_w_toRule := (mkE_ok tab_ok mixed AllF.nil AllX.nil)
theorem ev_w_toRule (a : dRule) : evalF E_w_toRule noL Tryz.f94 [.ro true tRule] (.one true tRule) (a, ()) = g_w_toRule a := by kernel_rfl
def m_w_toRule : FM := { ps := [.ro true tRule], res := .one true tRule, run := fun x => some (t_w_toRule x.1) }
set_option maxRecDepth 4000 in
theorem ok_w_toRule : FmOK Tryz.prog 94 m_w_toRule := @FmOK.made Tryz.prog E_w_toRule ek_w_toRule 94 Tryz.f94 noL m_w_toRule Tryz.func94 (by kernel_rfl) (Loops.none (by kernel_rfl)) fun ds out _ hr => by obtain ⟨a, ⟨⟩⟩ := ds; exact (ev_w_toRule a).trans ((q_w_toRule a).trans hr)

def E_w_toRuleS : Tabs := (mkE tab [(94, m_w_toRule)] [])
set_option maxRecDepth 4000 in
theorem ek_w_toRuleS : EnvOK Tryz.prog E_w_toRuleS := (mkE_ok tab_ok mixed (AllF.cons ok_w_toRule AllF.nil) AllX.nil)
def lm_L_w_toRuleS_1 : LM := { mat := [], head := { slots := [(0, .dat false (.slice tRule)), (3, .cst (.sl (.row 0))), (4, .dat false (.int .i64))], blks := [.row false tRule] }, out := { slots := [(3, .cst (.sl (.row 0)))], blks := [.row false tRule] }, ex := 0, rets := false, run := iter L_w_toRuleS_1 fuel }
def ll_w_toRuleS : List (Nat × LP) := [(3, .lm lm_L_w_toRuleS_1)]
theorem rd_L_w_toRuleS_1 (rec' : ((List dRule) × Int × Unit) × ((List dRule) × Unit) → Option ((Unit) × ((List dRule) × Unit))) (a : (List dRule)) (i : Int) (r0 : (List dRule)) : round E_w_toRuleS (lookL ll_w_toRuleS) lm_L_w_toRuleS_1 23 (loopAt Tryz.f50 0) rec' ((a, i, ()), (r0, ())) = L_w_toRuleS_1 rec' ((a, i, ()), (r0, ())) := by kernel_rfl
theorem lo_w_toRuleS : Loops E_w_toRuleS (lookL ll_w_toRuleS) Tryz.f50 := Loops.list (by kernel_rfl) (by kernel_rfl) ⟨LoopOK.iter (step := L_w_toRuleS_1) (N := fun _ => fuel) (fun rec' x => by obtain ⟨⟨a, i, ⟨⟩⟩, ⟨r0, ⟨⟩⟩⟩ := x; exact rd_L_w_toRuleS_1 rec' a i r0) fun _ => rfl, trivial⟩
theorem ev_w_toRuleS (a : (List dRule)) : evalF E_w_toRuleS (lookL ll_w_toRuleS) Tryz.f50 [.ro false (.slice tRule)] (.one false (.slice tRule)) (a, ()) = g_w_toRuleS a := by kernel_rfl
def m_w_toRuleS : FM := { ps := [.ro false (.slice tRule)], res := .one false (.slice tRule), run := fun x => g_w_toRuleS x.1 }
set_option maxRecDepth 4000 in
theorem ok_w_toRuleS : FmOK Tryz.prog 50 m_w_toRuleS := @FmOK.made Tryz.prog E_w_toRuleS ek_w_toRuleS 50 Tryz.f50 (lookL ll_w_toRuleS) m_w_toRuleS Tryz.func50 (by kernel_rfl) lo_w_toRuleS fun ds out _ hr => by obtain ⟨a, ⟨⟩⟩ := ds; exact (ev_w_toRuleS a).trans hr

def E_w_toMachine : Tabs := (mkE tab [(19, m_w_toClipS), (49, m_w_toStateS), (50, m_w_toRuleS)] [])
set_option maxRecDepth 4000 in
theorem ek_w_toMachine : EnvOK Tryz.prog E_w_toMachine := (mkE_ok tab_ok mixed (AllF.cons ok_w_toClipS (AllF.cons ok_w_toStateS (AllF.cons ok_w_toRuleS AllF.nil))) AllX.nil)
theorem ev_w_toMachine (a : dMachine) : evalF E_w_toMachine noL Tryz.f10 [.ro true tMachine] (.one true tMachine) (a, ()) = g_w_toMachine a := by kernel_rfl
def m_w_toMachine : FM := { ps := [.ro true tMachine], res := .one true tMachine, run := fun x => g_w_toMachine x.1 }
set_option maxRecDepth 4000 in
theorem ok_w_toMachine : FmOK Tryz.prog 10 m_w_toMachine := @FmOK.made Tryz.prog E_w_toMachine ek_w_toMachine 10 Tryz.f10 noL m_w_toMachine Tryz.func10 (by kernel_rfl) (Loops.none (by kernel_rfl)) fun ds out _ hr => by obtain ⟨a, ⟨⟩⟩ := ds; exact (ev_w_toMachine a).trans hr

def E_s_l00In : Tabs := (mkE tab [] [])
set_option maxRecDepth 4000 in
theorem ek_s_l00In : EnvOK Tryz.prog E_s_l00In := (mkE_ok tab_ok mixed AllF.nil AllX.nil)
theorem ev_s_l00In (n : Int) (low : Int) (high : Int) : evalF E_s_l00In noL Tryz.f58 [.ro false (.int .i64), .ro false (.int .i64), .ro false (.int .i64)] (.one false .bool) (n, low, high, ()) = g_s_l00In n low high := by kernel_rfl
def m_s_l00In : FM := { ps := [.ro false (.int .i64), .ro false (.int .i64), .ro false (.int .i64)], res := .one false .bool, run := fun x => some (t_s_l00In x.1 x.2.1 x.2.2.1) }
set_option maxRecDepth 4000 in
theorem ok_s_l00In : FmOK Tryz.prog 58 m_s_l00In := @FmOK.made Tryz.prog E_s_l00In ek_s_l00In 58 Tryz.f58 noL m_s_l00In Tryz.func58 (by kernel_rfl) (Loops.none (by kernel_rfl)) fun ds out _ hr => by obtain ⟨n, low, high, ⟨⟩⟩ := ds; exact (ev_s_l00In n low high).trans ((q_s_l00In n low high).trans hr)

def E_s_l05At : Tabs := (mkE tab [] [])
set_option maxRecDepth 4000 in
theorem ek_s_l05At : EnvOK Tryz.prog E_s_l05At := (mkE_ok tab_ok mixed AllF.nil AllX.nil)
def lm_L_s_l05At_1 : LM := { mat := [], head := { slots := [(0, .dat false (.slice tKey)), (3, .cst (.sl (.row 0))), (7, .dat false (.int .i64)), (8, .dat false (.int .i64))], blks := [.row false (.int .i64)] }, out := { slots := [(3, .cst (.sl (.row 0)))], blks := [.row false (.int .i64)] }, ex := 0, rets := false, run := iter L_s_l05At_1 fuel }
def ll_s_l05At : List (Nat × LP) := [(3, .lm lm_L_s_l05At_1)]
theorem rd_L_s_l05At_1 (rec' : ((List dKey) × Int × Int × Unit) × ((List Int) × Unit) → Option ((Unit) × ((List Int) × Unit))) (track : (List dKey)) (t7 : Int) (t8 : Int) (r0 : (List Int)) : round E_s_l05At (lookL ll_s_l05At) lm_L_s_l05At_1 21 (loopAt Tryz.f105 0) rec' ((track, t7, t8, ()), (r0, ())) = L_s_l05At_1 rec' ((track, t7, t8, ()), (r0, ())) := by kernel_rfl
theorem lo_s_l05At : Loops E_s_l05At (lookL ll_s_l05At) Tryz.f105 := Loops.list (by kernel_rfl) (by kernel_rfl) ⟨LoopOK.iter (step := L_s_l05At_1) (N := fun _ => fuel) (fun rec' x => by obtain ⟨⟨track, t7, t8, ⟨⟩⟩, ⟨r0, ⟨⟩⟩⟩ := x; exact rd_L_s_l05At_1 rec' track t7 t8 r0) fun _ => rfl, trivial⟩
theorem ev_s_l05At (track : (List dKey)) : evalF E_s_l05At (lookL ll_s_l05At) Tryz.f105 [.ro false (.slice tKey)] (.one false (.slice (.int .i64))) (track, ()) = g_s_l05At track := by kernel_rfl
def m_s_l05At : FM := { ps := [.ro false (.slice tKey)], res := .one false (.slice (.int .i64)), run := fun x => g_s_l05At x.1 }
set_option maxRecDepth 4000 in
theorem ok_s_l05At : FmOK Tryz.prog 105 m_s_l05At := @FmOK.made Tryz.prog E_s_l05At ek_s_l05At 105 Tryz.f105 (lookL ll_s_l05At) m_s_l05At Tryz.func105 (by kernel_rfl) lo_s_l05At fun ds out _ hr => by obtain ⟨track, ⟨⟩⟩ := ds; exact (ev_s_l05At track).trans hr

def E_s_l05Times : Tabs := (mkE tab [(58, m_s_l00In)] [])
set_option maxRecDepth 4000 in
theorem ek_s_l05Times : EnvOK Tryz.prog E_s_l05Times := (mkE_ok tab_ok mixed (AllF.cons ok_s_l00In AllF.nil) AllX.nil)
def lm_L_s_l05Times_1 : LM := { mat := [], head := { slots := [(0, .dat false (.slice (.int .i64))), (1, .dat false (.int .i64)), (4, .dat false .bool), (7, .dat false (.int .i64)), (8, .dat false (.int .i64))], blks := [] }, out := { slots := [(0, .dat false (.slice (.int .i64))), (4, .dat false .bool)], blks := [] }, ex := 0, rets := true, run := iter L_s_l05Times_1 fuel }
def ll_s_l05Times : List (Nat × LP) := [(2, .lm lm_L_s_l05Times_1)]
theorem rd_L_s_l05Times_1 (rec' : ((List Int) × Int × Bool × Int × Int × Unit) × (Unit) → Option (Bool × (((List Int) × Bool × Unit) × (Unit)))) (list : (List Int)) (length : Int) (t4 : Bool) (t7 : Int) (t8 : Int) : round E_s_l05Times (lookL ll_s_l05Times) lm_L_s_l05Times_1 43 (loopAt Tryz.f104 0) rec' ((list, length, t4, t7, t8, ()), (())) = L_s_l05Times_1 rec' ((list, length, t4, t7, t8, ()), (())) := by kernel_rfl
theorem lo_s_l05Times : Loops E_s_l05Times (lookL ll_s_l05Times) Tryz.f104 := Loops.list (by kernel_rfl) (by kernel_rfl) ⟨LoopOK.iter (step := L_s_l05Times_1) (N := fun _ => fuel) (fun rec' x => by obtain ⟨⟨list, length, t4, t7, t8, ⟨⟩⟩, ⟨⟨⟩⟩⟩ := x; exact rd_L_s_l05Times_1 rec' list length t4 t7 t8) fun _ => rfl, trivial⟩
theorem ev_s_l05Times (list : (List Int)) (length : Int) : evalF E_s_l05Times (lookL ll_s_l05Times) Tryz.f104 [.ro false (.slice (.int .i64)), .ro false (.int .i64)] (.one false .bool) (list, length, ()) = g_s_l05Times list length := by kernel_rfl
def m_s_l05Times : FM := { ps := [.ro false (.slice (.int .i64)), .ro false (.int .i64)], res := .one false .bool, run := fun x => g_s_l05Times x.1 x.2.1 }
set_option maxRecDepth 4000 in
theorem ok_s_l05Times : FmOK Tryz.prog 104 m_s_l05Times := @FmOK.made Tryz.prog E_s_l05Times ek_s_l05Times 104 Tryz.f104 (lookL ll_s_l05Times) m_s_l05Times Tryz.func104 (by kernel_rfl) lo_s_l05Times fun ds out _ hr => by obtain ⟨list, length, ⟨⟩⟩ := ds; exact (ev_s_l05Times list length).trans hr

def E_s_l05RootAt : Tabs := (mkE tab [] [])
set_option maxRecDepth 4000 in
theorem ek_s_l05RootAt : EnvOK Tryz.prog E_s_l05RootAt := (mkE_ok tab_ok mixed AllF.nil AllX.nil)
def lm_L_s_l05RootAt_1 : LM := { mat := [], head := { slots := [(0, .dat false (.slice tRootKey)), (3, .cst (.sl (.row 0))), (7, .dat false (.int .i64)), (8, .dat false (.int .i64))], blks := [.row false (.int .i64)] }, out := { slots := [(3, .cst (.sl (.row 0)))], blks := [.row false (.int .i64)] }, ex := 0, rets := false, run := iter L_s_l05RootAt_1 fuel }
def ll_s_l05RootAt : List (Nat × LP) := [(3, .lm lm_L_s_l05RootAt_1)]
theorem rd_L_s_l05RootAt_1 (rec' : ((List dRootKey) × Int × Int × Unit) × ((List Int) × Unit) → Option ((Unit) × ((List Int) × Unit))) (roots : (List dRootKey)) (t7 : Int) (t8 : Int) (r0 : (List Int)) : round E_s_l05RootAt (lookL ll_s_l05RootAt) lm_L_s_l05RootAt_1 21 (loopAt Tryz.f106 0) rec' ((roots, t7, t8, ()), (r0, ())) = L_s_l05RootAt_1 rec' ((roots, t7, t8, ()), (r0, ())) := by kernel_rfl
theorem lo_s_l05RootAt : Loops E_s_l05RootAt (lookL ll_s_l05RootAt) Tryz.f106 := Loops.list (by kernel_rfl) (by kernel_rfl) ⟨LoopOK.iter (step := L_s_l05RootAt_1) (N := fun _ => fuel) (fun rec' x => by obtain ⟨⟨roots, t7, t8, ⟨⟩⟩, ⟨r0, ⟨⟩⟩⟩ := x; exact rd_L_s_l05RootAt_1 rec' roots t7 t8 r0) fun _ => rfl, trivial⟩
theorem ev_s_l05RootAt (roots : (List dRootKey)) : evalF E_s_l05RootAt (lookL ll_s_l05RootAt) Tryz.f106 [.ro false (.slice tRootKey)] (.one false (.slice (.int .i64))) (roots, ()) = g_s_l05RootAt roots := by kernel_rfl
def m_s_l05RootAt : FM := { ps := [.ro false (.slice tRootKey)], res := .one false (.slice (.int .i64)), run := fun x => g_s_l05RootAt x.1 }
set_option maxRecDepth 4000 in
theorem ok_s_l05RootAt : FmOK Tryz.prog 106 m_s_l05RootAt := @FmOK.made Tryz.prog E_s_l05RootAt ek_s_l05RootAt 106 Tryz.f106 (lookL ll_s_l05RootAt) m_s_l05RootAt Tryz.func106 (by kernel_rfl) lo_s_l05RootAt fun ds out _ hr => by obtain ⟨roots, ⟨⟩⟩ := ds; exact (ev_s_l05RootAt roots).trans hr

def E_s_l05Is : Tabs := (mkE tab [(58, m_s_l00In), (105, m_s_l05At), (104, m_s_l05Times), (106, m_s_l05RootAt)] [])
set_option maxRecDepth 4000 in
theorem ek_s_l05Is : EnvOK Tryz.prog E_s_l05Is := (mkE_ok tab_ok mixed (AllF.cons ok_s_l00In (AllF.cons ok_s_l05At (AllF.cons ok_s_l05Times (AllF.cons ok_s_l05RootAt AllF.nil)))) AllX.nil)
def lm_L_s_l05Is_1 : LM := { mat := [], head := { slots := [(0, .dat false (.ref tClip)), (2, .dat false .bool), (38, .dat false (.int .i64)), (39, .dat false (.int .i64))], blks := [] }, out := { slots := [(0, .dat false (.ref tClip)), (2, .dat false .bool)], blks := [] }, ex := 0, rets := true, run := iter L_s_l05Is_1 fuel }
def ll_s_l05Is : List (Nat × LP) := [(4, .lm lm_L_s_l05Is_1)]
theorem rd_L_s_l05Is_1 (rec' : (dClip × Bool × Int × Int × Unit) × (Unit) → Option (Bool × ((dClip × Bool × Unit) × (Unit)))) (c : dClip) (t2 : Bool) (t38 : Int) (t39 : Int) : round E_s_l05Is (lookL ll_s_l05Is) lm_L_s_l05Is_1 67 (loopAt Tryz.f59 0) rec' ((c, t2, t38, t39, ()), (())) = L_s_l05Is_1 rec' ((c, t2, t38, t39, ()), (())) := by kernel_rfl
theorem lo_s_l05Is : Loops E_s_l05Is (lookL ll_s_l05Is) Tryz.f59 := Loops.list (by kernel_rfl) (by kernel_rfl) ⟨LoopOK.iter (step := L_s_l05Is_1) (N := fun _ => fuel) (fun rec' x => by obtain ⟨⟨c, t2, t38, t39, ⟨⟩⟩, ⟨⟨⟩⟩⟩ := x; exact rd_L_s_l05Is_1 rec' c t2 t38 t39) fun _ => rfl, trivial⟩
theorem ev_s_l05Is (c : dClip) : evalF E_s_l05Is (lookL ll_s_l05Is) Tryz.f59 [.rptr tClip] (.one false .bool) (c, ()) = g_s_l05Is c := by kernel_rfl
def m_s_l05Is : FM := { ps := [.rptr tClip], res := .one false .bool, run := fun x => g_s_l05Is x.1 }
set_option maxRecDepth 4000 in
theorem ok_s_l05Is : FmOK Tryz.prog 59 m_s_l05Is := @FmOK.made Tryz.prog E_s_l05Is ek_s_l05Is 59 Tryz.f59 (lookL ll_s_l05Is) m_s_l05Is Tryz.func59 (by kernel_rfl) lo_s_l05Is fun ds out _ hr => by obtain ⟨c, ⟨⟩⟩ := ds; exact (ev_s_l05Is c).trans hr

def E_s_l07Is : Tabs := (mkE tab [(58, m_s_l00In), (59, m_s_l05Is)] [])
set_option maxRecDepth 4000 in
theorem ek_s_l07Is : EnvOK Tryz.prog E_s_l07Is := (mkE_ok tab_ok mixed (AllF.cons ok_s_l00In (AllF.cons ok_s_l05Is AllF.nil)) AllX.nil)
def lm_L_s_l07Is_3 : LM := { mat := [], head := { slots := [(0, .dat false (.ref tMachine)), (2, .dat false .bool), (4, .dat false (.int .i64)), (109, .dat false (.int .i64)), (110, .dat false (.int .i64))], blks := [] }, out := { slots := [(2, .dat false .bool)], blks := [] }, ex := 4, rets := true, run := iter L_s_l07Is_3 fuel }
def lm_L_s_l07Is_2 : LM := { mat := [], head := { slots := [(0, .dat false (.ref tMachine)), (2, .dat false .bool), (3, .dat false (.int .i64)), (4, .dat false (.int .i64)), (76, .dat false (.int .i64)), (77, .dat false (.int .i64))], blks := [] }, out := { slots := [(0, .dat false (.ref tMachine)), (2, .dat false .bool), (4, .dat false (.int .i64))], blks := [] }, ex := 2, rets := true, run := iter L_s_l07Is_2 fuel }
def lm_L_s_l07Is_1 : LM := { mat := [], head := { slots := [(0, .dat false (.ref tMachine)), (2, .dat false .bool), (3, .dat false (.int .i64)), (4, .dat false (.int .i64)), (39, .dat false (.int .i64)), (40, .dat false (.int .i64))], blks := [] }, out := { slots := [(0, .dat false (.ref tMachine)), (2, .dat false .bool), (3, .dat false (.int .i64)), (4, .dat false (.int .i64))], blks := [] }, ex := 0, rets := true, run := iter L_s_l07Is_1 fuel }
def ll_s_l07Is : List (Nat × LP) := [(6, .lm lm_L_s_l07Is_1), (12, .lm lm_L_s_l07Is_2), (18, .lm lm_L_s_l07Is_3)]
theorem rd_L_s_l07Is_3 (rec' : (dMachine × Bool × Int × Int × Int × Unit) × (Unit) → Option (Bool × ((Bool × Unit) × (Unit)))) (m : dMachine) (t2 : Bool) (states : Int) (t109 : Int) (t110 : Int) : round E_s_l07Is (lookL ll_s_l07Is) lm_L_s_l07Is_3 160 (loopAt Tryz.f46 2) rec' ((m, t2, states, t109, t110, ()), (())) = L_s_l07Is_3 rec' ((m, t2, states, t109, t110, ()), (())) := by kernel_rfl
theorem rd_L_s_l07Is_2 (rec' : (dMachine × Bool × Int × Int × Int × Int × Unit) × (Unit) → Option (Bool × ((dMachine × Bool × Int × Unit) × (Unit)))) (m : dMachine) (t2 : Bool) (clips : Int) (states : Int) (t76 : Int) (t77 : Int) : round E_s_l07Is (lookL ll_s_l07Is) lm_L_s_l07Is_2 160 (loopAt Tryz.f46 1) rec' ((m, t2, clips, states, t76, t77, ()), (())) = L_s_l07Is_2 rec' ((m, t2, clips, states, t76, t77, ()), (())) := by kernel_rfl
theorem rd_L_s_l07Is_1 (rec' : (dMachine × Bool × Int × Int × Int × Int × Unit) × (Unit) → Option (Bool × ((dMachine × Bool × Int × Int × Unit) × (Unit)))) (m : dMachine) (t2 : Bool) (clips : Int) (states : Int) (t39 : Int) (t40 : Int) : round E_s_l07Is (lookL ll_s_l07Is) lm_L_s_l07Is_1 160 (loopAt Tryz.f46 0) rec' ((m, t2, clips, states, t39, t40, ()), (())) = L_s_l07Is_1 rec' ((m, t2, clips, states, t39, t40, ()), (())) := by kernel_rfl
theorem lo_s_l07Is : Loops E_s_l07Is (lookL ll_s_l07Is) Tryz.f46 := Loops.list (by kernel_rfl) (by kernel_rfl) ⟨LoopOK.iter (step := L_s_l07Is_1) (N := fun _ => fuel) (fun rec' x => by obtain ⟨⟨m, t2, clips, states, t39, t40, ⟨⟩⟩, ⟨⟨⟩⟩⟩ := x; exact rd_L_s_l07Is_1 rec' m t2 clips states t39 t40) fun _ => rfl, LoopOK.iter (step := L_s_l07Is_2) (N := fun _ => fuel) (fun rec' x => by obtain ⟨⟨m, t2, clips, states, t76, t77, ⟨⟩⟩, ⟨⟨⟩⟩⟩ := x; exact rd_L_s_l07Is_2 rec' m t2 clips states t76 t77) fun _ => rfl, LoopOK.iter (step := L_s_l07Is_3) (N := fun _ => fuel) (fun rec' x => by obtain ⟨⟨m, t2, states, t109, t110, ⟨⟩⟩, ⟨⟨⟩⟩⟩ := x; exact rd_L_s_l07Is_3 rec' m t2 states t109 t110) fun _ => rfl, trivial⟩
theorem ev_s_l07Is (m : dMachine) : evalF E_s_l07Is (lookL ll_s_l07Is) Tryz.f46 [.rptr tMachine] (.one false .bool) (m, ()) = g_s_l07Is m := by kernel_rfl
def m_s_l07Is : FM := { ps := [.rptr tMachine], res := .one false .bool, run := fun x => g_s_l07Is x.1 }
set_option maxRecDepth 4000 in
theorem ok_s_l07Is : FmOK Tryz.prog 46 m_s_l07Is := @FmOK.made Tryz.prog E_s_l07Is ek_s_l07Is 46 Tryz.f46 (lookL ll_s_l07Is) m_s_l07Is Tryz.func46 (by kernel_rfl) lo_s_l07Is fun ds out _ hr => by obtain ⟨m, ⟨⟩⟩ := ds; exact (ev_s_l07Is m).trans hr

def E_s_l00Has : Tabs := (mkE tab [] [])
set_option maxRecDepth 4000 in
theorem ek_s_l00Has : EnvOK Tryz.prog E_s_l00Has := (mkE_ok tab_ok mixed AllF.nil AllX.nil)
def lm_L_s_l00Has_1 : LM := { mat := [], head := { slots := [(0, .dat false (.slice (.int .i64))), (1, .dat false (.int .i64)), (4, .dat false .bool), (5, .dat false (.int .i64))], blks := [] }, out := { slots := [(4, .dat false .bool)], blks := [] }, ex := 0, rets := true, run := iter L_s_l00Has_1 fuel }
def ll_s_l00Has : List (Nat × LP) := [(2, .lm lm_L_s_l00Has_1)]
theorem rd_L_s_l00Has_1 (rec' : ((List Int) × Int × Bool × Int × Unit) × (Unit) → Option (Bool × ((Bool × Unit) × (Unit)))) (list : (List Int)) (n : Int) (t4 : Bool) (i : Int) : round E_s_l00Has (lookL ll_s_l00Has) lm_L_s_l00Has_1 18 (loopAt Tryz.f83 0) rec' ((list, n, t4, i, ()), (())) = L_s_l00Has_1 rec' ((list, n, t4, i, ()), (())) := by kernel_rfl
theorem lo_s_l00Has : Loops E_s_l00Has (lookL ll_s_l00Has) Tryz.f83 := Loops.list (by kernel_rfl) (by kernel_rfl) ⟨LoopOK.iter (step := L_s_l00Has_1) (N := fun _ => fuel) (fun rec' x => by obtain ⟨⟨list, n, t4, i, ⟨⟩⟩, ⟨⟨⟩⟩⟩ := x; exact rd_L_s_l00Has_1 rec' list n t4 i) fun _ => rfl, trivial⟩
theorem ev_s_l00Has (list : (List Int)) (n : Int) : evalF E_s_l00Has (lookL ll_s_l00Has) Tryz.f83 [.ro false (.slice (.int .i64)), .ro false (.int .i64)] (.one false .bool) (list, n, ()) = g_s_l00Has list n := by kernel_rfl
def m_s_l00Has : FM := { ps := [.ro false (.slice (.int .i64)), .ro false (.int .i64)], res := .one false .bool, run := fun x => g_s_l00Has x.1 x.2.1 }
set_option maxRecDepth 4000 in
theorem ok_s_l00Has : FmOK Tryz.prog 83 m_s_l00Has := @FmOK.made Tryz.prog E_s_l00Has ek_s_l00Has 83 Tryz.f83 (lookL ll_s_l00Has) m_s_l00Has Tryz.func83 (by kernel_rfl) lo_s_l00Has fun ds out _ hr => by obtain ⟨list, n, ⟨⟩⟩ := ds; exact (ev_s_l00Has list n).trans hr

def E_s_l00Put : Tabs := (mkE tab [] [])
set_option maxRecDepth 4000 in
theorem ek_s_l00Put : EnvOK Tryz.prog E_s_l00Put := (mkE_ok tab_ok mixed AllF.nil AllX.nil)
def lm_L_s_l00Put_1 : LM := { mat := [], head := { slots := [(0, .dat false (.slice (.int .i64))), (1, .dat false (.int .i64)), (5, .cst (.sl (.row 0))), (6, .dat false .bool), (7, .dat false (.int .i64))], blks := [.row false (.int .i64)] }, out := { slots := [(1, .dat false (.int .i64)), (5, .cst (.sl (.row 0))), (6, .dat false .bool)], blks := [.row false (.int .i64)] }, ex := 0, rets := false, run := iter L_s_l00Put_1 fuel }
def ll_s_l00Put : List (Nat × LP) := [(4, .lm lm_L_s_l00Put_1)]
theorem rd_L_s_l00Put_1 (rec' : ((List Int) × Int × Bool × Int × Unit) × ((List Int) × Unit) → Option ((Int × Bool × Unit) × ((List Int) × Unit))) (list : (List Int)) (n : Int) (done : Bool) (i : Int) (r0 : (List Int)) : round E_s_l00Put (lookL ll_s_l00Put) lm_L_s_l00Put_1 49 (loopAt Tryz.f84 0) rec' ((list, n, done, i, ()), (r0, ())) = L_s_l00Put_1 rec' ((list, n, done, i, ()), (r0, ())) := by kernel_rfl
theorem lo_s_l00Put : Loops E_s_l00Put (lookL ll_s_l00Put) Tryz.f84 := Loops.list (by kernel_rfl) (by kernel_rfl) ⟨LoopOK.iter (step := L_s_l00Put_1) (N := fun _ => fuel) (fun rec' x => by obtain ⟨⟨list, n, done, i, ⟨⟩⟩, ⟨r0, ⟨⟩⟩⟩ := x; exact rd_L_s_l00Put_1 rec' list n done i r0) fun _ => rfl, trivial⟩
theorem ev_s_l00Put (list : (List Int)) (n : Int) : evalF E_s_l00Put (lookL ll_s_l00Put) Tryz.f84 [.ro false (.slice (.int .i64)), .ro false (.int .i64)] (.one false (.slice (.int .i64))) (list, n, ()) = g_s_l00Put list n := by kernel_rfl
def m_s_l00Put : FM := { ps := [.ro false (.slice (.int .i64)), .ro false (.int .i64)], res := .one false (.slice (.int .i64)), run := fun x => g_s_l00Put x.1 x.2.1 }
set_option maxRecDepth 4000 in
theorem ok_s_l00Put : FmOK Tryz.prog 84 m_s_l00Put := @FmOK.made Tryz.prog E_s_l00Put ek_s_l00Put 84 Tryz.f84 (lookL ll_s_l00Put) m_s_l00Put Tryz.func84 (by kernel_rfl) lo_s_l00Put fun ds out _ hr => by obtain ⟨list, n, ⟨⟩⟩ := ds; exact (ev_s_l00Put list n).trans hr

def E_s_ReachedStates : Tabs := (mkE tab [(46, m_s_l07Is), (58, m_s_l00In), (83, m_s_l00Has), (84, m_s_l00Put)] [])
set_option maxRecDepth 4000 in
theorem ek_s_ReachedStates : EnvOK Tryz.prog E_s_ReachedStates := (mkE_ok tab_ok mixed (AllF.cons ok_s_l07Is (AllF.cons ok_s_l00In (AllF.cons ok_s_l00Has (AllF.cons ok_s_l00Put AllF.nil)))) AllX.nil)
def lm_L_s_ReachedStates_3 : LM := { mat := [.mv 10 2], head := { slots := [(6, .cst (.sl (.row 1))), (10, .cst (.sl (.row 2))), (84, .dat false (.int .i64)), (85, .dat false (.int .i64))], blks := [.dead, .row false (.int .i64), .row false (.int .i64)] }, out := { slots := [(10, .cst (.sl (.row 2)))], blks := [.dead, .dead, .row false (.int .i64)] }, ex := 4, rets := false, run := iter L_s_ReachedStates_3 fuel }
def lm_L_s_ReachedStates_2 : LM := { mat := [], head := { slots := [(2, .cst (.ptr (.box 0 0))), (6, .cst (.sl (.row 1))), (7, .dat false (.int .i64)), (33, .dat false (.int .i64)), (34, .dat false (.int .i64))], blks := [.box [.dat tMachine], .row false (.int .i64)] }, out := { slots := [(2, .cst (.ptr (.box 0 0))), (6, .cst (.sl (.row 1))), (7, .dat false (.int .i64))], blks := [.box [.dat tMachine], .row false (.int .i64)] }, ex := 2, rets := false, run := iter L_s_ReachedStates_2 fuel }
def lm_L_s_ReachedStates_1 : LM := { mat := [], head := { slots := [(2, .cst (.ptr (.box 0 0))), (6, .cst (.sl (.row 1))), (7, .dat false (.int .i64))], blks := [.box [.dat tMachine], .row false (.int .i64)] }, out := { slots := [(6, .cst (.sl (.row 1)))], blks := [.dead, .row false (.int .i64)] }, ex := 0, rets := false, run := iter L_s_ReachedStates_1 fuel }
def ll_s_ReachedStates : List (Nat × LP) := [(5, .lm lm_L_s_ReachedStates_1), (8, .lm lm_L_s_ReachedStates_2), (16, .lm lm_L_s_ReachedStates_3)]
theorem rd_L_s_ReachedStates_3 (rec' : (Int × Int × Unit) × ((List Int) × (List Int) × Unit) → Option ((Unit) × ((List Int) × Unit))) (t84 : Int) (t85 : Int) (r1 : (List Int)) (r2 : (List Int)) : round E_s_ReachedStates (lookL ll_s_ReachedStates) lm_L_s_ReachedStates_3 96 (loopAt Tryz.f30 2) rec' ((t84, t85, ()), (r1, r2, ())) = L_s_ReachedStates_3 rec' ((t84, t85, ()), (r1, r2, ())) := by kernel_rfl
theorem rd_L_s_ReachedStates_2 (rec' : (Int × Int × Int × Unit) × ((dMachine × Unit) × (List Int) × Unit) → Option ((Int × Unit) × ((dMachine × Unit) × (List Int) × Unit))) (i : Int) (t33 : Int) (t34 : Int) (b0 : dMachine) (r1 : (List Int)) : round E_s_ReachedStates (lookL ll_s_ReachedStates) lm_L_s_ReachedStates_2 96 (loopAt Tryz.f30 1) rec' ((i, t33, t34, ()), ((b0, ()), r1, ())) = L_s_ReachedStates_2 rec' ((i, t33, t34, ()), ((b0, ()), r1, ())) := by kernel_rfl
theorem rd_L_s_ReachedStates_1 (rec' : (Int × Unit) × ((dMachine × Unit) × (List Int) × Unit) → Option ((Unit) × ((List Int) × Unit))) (i : Int) (b0 : dMachine) (r1 : (List Int)) : round E_s_ReachedStates (lookL ll_s_ReachedStates) lm_L_s_ReachedStates_1 96 (loopAt Tryz.f30 0) rec' ((i, ()), ((b0, ()), r1, ())) = L_s_ReachedStates_1 rec' ((i, ()), ((b0, ()), r1, ())) := by kernel_rfl
theorem lo_s_ReachedStates : Loops E_s_ReachedStates (lookL ll_s_ReachedStates) Tryz.f30 := Loops.list (by kernel_rfl) (by kernel_rfl) ⟨LoopOK.iter (step := L_s_ReachedStates_1) (N := fun _ => fuel) (fun rec' x => by obtain ⟨⟨i, ⟨⟩⟩, ⟨⟨b0, ⟨⟩⟩, r1, ⟨⟩⟩⟩ := x; exact rd_L_s_ReachedStates_1 rec' i b0 r1) fun _ => rfl, LoopOK.iter (step := L_s_ReachedStates_2) (N := fun _ => fuel) (fun rec' x => by obtain ⟨⟨i, t33, t34, ⟨⟩⟩, ⟨⟨b0, ⟨⟩⟩, r1, ⟨⟩⟩⟩ := x; exact rd_L_s_ReachedStates_2 rec' i t33 t34 b0 r1) fun _ => rfl, LoopOK.iter (step := L_s_ReachedStates_3) (N := fun _ => fuel) (fun rec' x => by obtain ⟨⟨t84, t85, ⟨⟩⟩, ⟨r1, r2, ⟨⟩⟩⟩ := x; exact rd_L_s_ReachedStates_3 rec' t84 t85 r1 r2) fun _ => rfl, trivial⟩
theorem ev_s_ReachedStates (m : dMachine) (state : Int) : evalF E_s_ReachedStates (lookL ll_s_ReachedStates) Tryz.f30 [.ro true tMachine, .ro false (.int .i64)] (.tup [(false, (.slice (.int .i64))), (false, .bool)]) (m, state, ()) = g_s_ReachedStates m state := by kernel_rfl
def m_s_ReachedStates : FM := { ps := [.ro true tMachine, .ro false (.int .i64)], res := .tup [(false, (.slice (.int .i64))), (false, .bool)], run := fun x => g_s_ReachedStates x.1 x.2.1 }
set_option maxRecDepth 4000 in
theorem ok_s_ReachedStates : FmOK Tryz.prog 30 m_s_ReachedStates := @FmOK.made Tryz.prog E_s_ReachedStates ek_s_ReachedStates 30 Tryz.f30 (lookL ll_s_ReachedStates) m_s_ReachedStates Tryz.func30 (by kernel_rfl) lo_s_ReachedStates fun ds out _ hr => by obtain ⟨m, state, ⟨⟩⟩ := ds; exact (ev_s_ReachedStates m state).trans hr

def E_i_turnTrack : Tabs := (mkE tab [] [])
set_option maxRecDepth 4000 in
theorem ek_i_turnTrack : EnvOK Tryz.prog E_i_turnTrack := (mkE_ok tab_ok mixed AllF.nil AllX.nil)
theorem ev_i_turnTrack  : evalF E_i_turnTrack noL Tryz.f119 [] (.one true (.pair (.fn 158) (.pair (.fn 159) (.pair (.fn 160) .unit)))) (()) = g_i_turnTrack  := by kernel_rfl
def m_i_turnTrack : FM := { ps := [], res := .one true (.pair (.fn 158) (.pair (.fn 159) (.pair (.fn 160) .unit))), run := fun x => some (t_i_turnTrack ) }
set_option maxRecDepth 4000 in
theorem ok_i_turnTrack : FmOK Tryz.prog 119 m_i_turnTrack := @FmOK.made Tryz.prog E_i_turnTrack ek_i_turnTrack 119 Tryz.f119 noL m_i_turnTrack Tryz.func119 (by kernel_rfl) (Loops.none (by kernel_rfl)) fun ds out _ hr => by obtain ⟨⟨⟩⟩ := ds; exact (ev_i_turnTrack ).trans ((q_i_turnTrack ).trans hr)

def E_i_turnTrack_1 : Tabs := (mkE tab [] [])
set_option maxRecDepth 4000 in
theorem ek_i_turnTrack_1 : EnvOK Tryz.prog E_i_turnTrack_1 := (mkE_ok tab_ok mixed AllF.nil AllX.nil)
theorem ev_i_turnTrack_1 (k : dKey) : evalF E_i_turnTrack_1 noL Tryz.f158 [.ro true tKey] (.one false (.int .i64)) (k, ()) = g_i_turnTrack_1 k := by kernel_rfl
def m_i_turnTrack_1 : FM := { ps := [.ro true tKey], res := .one false (.int .i64), run := fun x => some (t_i_turnTrack_1 x.1) }
set_option maxRecDepth 4000 in
theorem ok_i_turnTrack_1 : FmOK Tryz.prog 158 m_i_turnTrack_1 := @FmOK.made Tryz.prog E_i_turnTrack_1 ek_i_turnTrack_1 158 Tryz.f158 noL m_i_turnTrack_1 Tryz.func158 (by kernel_rfl) (Loops.none (by kernel_rfl)) fun ds out _ hr => by obtain ⟨k, ⟨⟩⟩ := ds; exact (ev_i_turnTrack_1 k).trans ((q_i_turnTrack_1 k).trans hr)

def E_i_track_i_Key_valid : Tabs := (mkE tab [(158, m_i_turnTrack_1)] [])
set_option maxRecDepth 4000 in
theorem ek_i_track_i_Key_valid : EnvOK Tryz.prog E_i_track_i_Key_valid := (mkE_ok tab_ok mixed (AllF.cons ok_i_turnTrack_1 AllF.nil) AllX.nil)
def lm_L_i_track_i_Key_valid_1 : LM := { mat := [], head := { slots := [(1, .dat false (.slice tKey)), (2, .dat false (.int .i64)), (3, .cst (.ptr (.box 0 0))), (6, .dat false .bool), (7, .dat false (.int .i64)), (11, .dat false (.slice tKey)), (12, .dat false (.int .i64)), (13, .dat false (.int .i64))], blks := [.box [.dat (.pair (.fn 158) (.pair (.fn 159) (.pair (.fn 160) .unit)))]] }, out := { slots := [(1, .dat false (.slice tKey)), (6, .dat false .bool)], blks := [.dead] }, ex := 0, rets := true, run := iter L_i_track_i_Key_valid_1 fuel }
def ll_i_track_i_Key_valid : List (Nat × LP) := [(3, .lm lm_L_i_track_i_Key_valid_1)]
theorem rd_L_i_track_i_Key_valid_1 (rec' : ((List dKey) × Int × Bool × Int × (List dKey) × Int × Int × Unit) × (((Unit × (Unit × (Unit × Unit))) × Unit) × Unit) → Option (Bool × (((List dKey) × Bool × Unit) × (Unit)))) (keys : (List dKey)) (length : Int) (t6 : Bool) (last : Int) (t11 : (List dKey)) (t12 : Int) (t13 : Int) (b0 : (Unit × (Unit × (Unit × Unit)))) : round E_i_track_i_Key_valid (lookL ll_i_track_i_Key_valid) lm_L_i_track_i_Key_valid_1 42 (loopAt Tryz.f154 0) rec' ((keys, length, t6, last, t11, t12, t13, ()), ((b0, ()), ())) = L_i_track_i_Key_valid_1 rec' ((keys, length, t6, last, t11, t12, t13, ()), ((b0, ()), ())) := by kernel_rfl
theorem lo_i_track_i_Key_valid : Loops E_i_track_i_Key_valid (lookL ll_i_track_i_Key_valid) Tryz.f154 := Loops.list (by kernel_rfl) (by kernel_rfl) ⟨LoopOK.iter (step := L_i_track_i_Key_valid_1) (N := fun _ => fuel) (fun rec' x => by obtain ⟨⟨keys, length, t6, last, t11, t12, t13, ⟨⟩⟩, ⟨⟨b0, ⟨⟩⟩, ⟨⟩⟩⟩ := x; exact rd_L_i_track_i_Key_valid_1 rec' keys length t6 last t11 t12 t13 b0) fun _ => rfl, trivial⟩
theorem ev_i_track_i_Key_valid (t : (Unit × (Unit × (Unit × Unit)))) (keys : (List dKey)) (length : Int) : evalF E_i_track_i_Key_valid (lookL ll_i_track_i_Key_valid) Tryz.f154 [.ro true (.pair (.fn 158) (.pair (.fn 159) (.pair (.fn 160) .unit))), .ro false (.slice tKey), .ro false (.int .i64)] (.one false .bool) (t, keys, length, ()) = g_i_track_i_Key_valid t keys length := by kernel_rfl
def m_i_track_i_Key_valid : FM := { ps := [.ro true (.pair (.fn 158) (.pair (.fn 159) (.pair (.fn 160) .unit))), .ro false (.slice tKey), .ro false (.int .i64)], res := .one false .bool, run := fun x => g_i_track_i_Key_valid x.1 x.2.1 x.2.2.1 }
set_option maxRecDepth 4000 in
theorem ok_i_track_i_Key_valid : FmOK Tryz.prog 154 m_i_track_i_Key_valid := @FmOK.made Tryz.prog E_i_track_i_Key_valid ek_i_track_i_Key_valid 154 Tryz.f154 (lookL ll_i_track_i_Key_valid) m_i_track_i_Key_valid Tryz.func154 (by kernel_rfl) lo_i_track_i_Key_valid fun ds out _ hr => by obtain ⟨t, keys, length, ⟨⟩⟩ := ds; exact (ev_i_track_i_Key_valid t keys length).trans hr

def E_i_rootTrack : Tabs := (mkE tab [] [])
set_option maxRecDepth 4000 in
theorem ek_i_rootTrack : EnvOK Tryz.prog E_i_rootTrack := (mkE_ok tab_ok mixed AllF.nil AllX.nil)
theorem ev_i_rootTrack  : evalF E_i_rootTrack noL Tryz.f155 [] (.one true (.pair (.fn 187) (.pair (.fn 188) (.pair (.fn 189) .unit)))) (()) = g_i_rootTrack  := by kernel_rfl
def m_i_rootTrack : FM := { ps := [], res := .one true (.pair (.fn 187) (.pair (.fn 188) (.pair (.fn 189) .unit))), run := fun x => some (t_i_rootTrack ) }
set_option maxRecDepth 4000 in
theorem ok_i_rootTrack : FmOK Tryz.prog 155 m_i_rootTrack := @FmOK.made Tryz.prog E_i_rootTrack ek_i_rootTrack 155 Tryz.f155 noL m_i_rootTrack Tryz.func155 (by kernel_rfl) (Loops.none (by kernel_rfl)) fun ds out _ hr => by obtain ⟨⟨⟩⟩ := ds; exact (ev_i_rootTrack ).trans ((q_i_rootTrack ).trans hr)

def E_i_rootTrack_1 : Tabs := (mkE tab [] [])
set_option maxRecDepth 4000 in
theorem ek_i_rootTrack_1 : EnvOK Tryz.prog E_i_rootTrack_1 := (mkE_ok tab_ok mixed AllF.nil AllX.nil)
theorem ev_i_rootTrack_1 (k : dRootKey) : evalF E_i_rootTrack_1 noL Tryz.f187 [.ro true tRootKey] (.one false (.int .i64)) (k, ()) = g_i_rootTrack_1 k := by kernel_rfl
def m_i_rootTrack_1 : FM := { ps := [.ro true tRootKey], res := .one false (.int .i64), run := fun x => some (t_i_rootTrack_1 x.1) }
set_option maxRecDepth 4000 in
theorem ok_i_rootTrack_1 : FmOK Tryz.prog 187 m_i_rootTrack_1 := @FmOK.made Tryz.prog E_i_rootTrack_1 ek_i_rootTrack_1 187 Tryz.f187 noL m_i_rootTrack_1 Tryz.func187 (by kernel_rfl) (Loops.none (by kernel_rfl)) fun ds out _ hr => by obtain ⟨k, ⟨⟩⟩ := ds; exact (ev_i_rootTrack_1 k).trans ((q_i_rootTrack_1 k).trans hr)

def E_i_track_i_RootKey_valid : Tabs := (mkE tab [(187, m_i_rootTrack_1)] [])
set_option maxRecDepth 4000 in
theorem ek_i_track_i_RootKey_valid : EnvOK Tryz.prog E_i_track_i_RootKey_valid := (mkE_ok tab_ok mixed (AllF.cons ok_i_rootTrack_1 AllF.nil) AllX.nil)
def lm_L_i_track_i_RootKey_valid_1 : LM := { mat := [], head := { slots := [(1, .dat false (.slice tRootKey)), (2, .dat false (.int .i64)), (3, .cst (.ptr (.box 0 0))), (6, .dat false .bool), (7, .dat false (.int .i64)), (11, .dat false (.slice tRootKey)), (12, .dat false (.int .i64)), (13, .dat false (.int .i64))], blks := [.box [.dat (.pair (.fn 187) (.pair (.fn 188) (.pair (.fn 189) .unit)))]] }, out := { slots := [(1, .dat false (.slice tRootKey)), (6, .dat false .bool)], blks := [.dead] }, ex := 0, rets := true, run := iter L_i_track_i_RootKey_valid_1 fuel }
def ll_i_track_i_RootKey_valid : List (Nat × LP) := [(3, .lm lm_L_i_track_i_RootKey_valid_1)]
theorem rd_L_i_track_i_RootKey_valid_1 (rec' : ((List dRootKey) × Int × Bool × Int × (List dRootKey) × Int × Int × Unit) × (((Unit × (Unit × (Unit × Unit))) × Unit) × Unit) → Option (Bool × (((List dRootKey) × Bool × Unit) × (Unit)))) (keys : (List dRootKey)) (length : Int) (t6 : Bool) (last : Int) (t11 : (List dRootKey)) (t12 : Int) (t13 : Int) (b0 : (Unit × (Unit × (Unit × Unit)))) : round E_i_track_i_RootKey_valid (lookL ll_i_track_i_RootKey_valid) lm_L_i_track_i_RootKey_valid_1 42 (loopAt Tryz.f156 0) rec' ((keys, length, t6, last, t11, t12, t13, ()), ((b0, ()), ())) = L_i_track_i_RootKey_valid_1 rec' ((keys, length, t6, last, t11, t12, t13, ()), ((b0, ()), ())) := by kernel_rfl
theorem lo_i_track_i_RootKey_valid : Loops E_i_track_i_RootKey_valid (lookL ll_i_track_i_RootKey_valid) Tryz.f156 := Loops.list (by kernel_rfl) (by kernel_rfl) ⟨LoopOK.iter (step := L_i_track_i_RootKey_valid_1) (N := fun _ => fuel) (fun rec' x => by obtain ⟨⟨keys, length, t6, last, t11, t12, t13, ⟨⟩⟩, ⟨⟨b0, ⟨⟩⟩, ⟨⟩⟩⟩ := x; exact rd_L_i_track_i_RootKey_valid_1 rec' keys length t6 last t11 t12 t13 b0) fun _ => rfl, trivial⟩
theorem ev_i_track_i_RootKey_valid (t : (Unit × (Unit × (Unit × Unit)))) (keys : (List dRootKey)) (length : Int) : evalF E_i_track_i_RootKey_valid (lookL ll_i_track_i_RootKey_valid) Tryz.f156 [.ro true (.pair (.fn 187) (.pair (.fn 188) (.pair (.fn 189) .unit))), .ro false (.slice tRootKey), .ro false (.int .i64)] (.one false .bool) (t, keys, length, ()) = g_i_track_i_RootKey_valid t keys length := by kernel_rfl
def m_i_track_i_RootKey_valid : FM := { ps := [.ro true (.pair (.fn 187) (.pair (.fn 188) (.pair (.fn 189) .unit))), .ro false (.slice tRootKey), .ro false (.int .i64)], res := .one false .bool, run := fun x => g_i_track_i_RootKey_valid x.1 x.2.1 x.2.2.1 }
set_option maxRecDepth 4000 in
theorem ok_i_track_i_RootKey_valid : FmOK Tryz.prog 156 m_i_track_i_RootKey_valid := @FmOK.made Tryz.prog E_i_track_i_RootKey_valid ek_i_track_i_RootKey_valid 156 Tryz.f156 (lookL ll_i_track_i_RootKey_valid) m_i_track_i_RootKey_valid Tryz.func156 (by kernel_rfl) lo_i_track_i_RootKey_valid fun ds out _ hr => by obtain ⟨t, keys, length, ⟨⟩⟩ := ds; exact (ev_i_track_i_RootKey_valid t keys length).trans hr

def E_i_ValidClip : Tabs := (mkE tab [(119, m_i_turnTrack), (154, m_i_track_i_Key_valid), (155, m_i_rootTrack), (156, m_i_track_i_RootKey_valid)] [])
set_option maxRecDepth 4000 in
theorem ek_i_ValidClip : EnvOK Tryz.prog E_i_ValidClip := (mkE_ok tab_ok mixed (AllF.cons ok_i_turnTrack (AllF.cons ok_i_track_i_Key_valid (AllF.cons ok_i_rootTrack (AllF.cons ok_i_track_i_RootKey_valid AllF.nil)))) AllX.nil)
def lm_L_i_ValidClip_1 : LM := { mat := [], head := { slots := [(1, .cst (.ptr (.box 0 0))), (2, .dat false .bool), (36, .dat false (.slice (.slice tKey))), (37, .dat false (.int .i64)), (38, .dat false (.int .i64))], blks := [.box [.dat tClip]] }, out := { slots := [(1, .cst (.ptr (.box 0 0))), (2, .dat false .bool)], blks := [.box [.dat tClip]] }, ex := 0, rets := true, run := iter L_i_ValidClip_1 fuel }
def ll_i_ValidClip : List (Nat × LP) := [(4, .lm lm_L_i_ValidClip_1)]
theorem rd_L_i_ValidClip_1 (rec' : (Bool × (List (List dKey)) × Int × Int × Unit) × ((dClip × Unit) × Unit) → Option (Bool × ((Bool × Unit) × ((dClip × Unit) × Unit)))) (t2 : Bool) (t36 : (List (List dKey))) (t37 : Int) (t38 : Int) (b0 : dClip) : round E_i_ValidClip (lookL ll_i_ValidClip) lm_L_i_ValidClip_1 55 (loopAt Tryz.f117 0) rec' ((t2, t36, t37, t38, ()), ((b0, ()), ())) = L_i_ValidClip_1 rec' ((t2, t36, t37, t38, ()), ((b0, ()), ())) := by kernel_rfl
theorem lo_i_ValidClip : Loops E_i_ValidClip (lookL ll_i_ValidClip) Tryz.f117 := Loops.list (by kernel_rfl) (by kernel_rfl) ⟨LoopOK.iter (step := L_i_ValidClip_1) (N := fun _ => fuel) (fun rec' x => by obtain ⟨⟨t2, t36, t37, t38, ⟨⟩⟩, ⟨⟨b0, ⟨⟩⟩, ⟨⟩⟩⟩ := x; exact rd_L_i_ValidClip_1 rec' t2 t36 t37 t38 b0) fun _ => rfl, trivial⟩
theorem ev_i_ValidClip (c : dClip) : evalF E_i_ValidClip (lookL ll_i_ValidClip) Tryz.f117 [.ro true tClip] (.one false .bool) (c, ()) = g_i_ValidClip c := by kernel_rfl
def m_i_ValidClip : FM := { ps := [.ro true tClip], res := .one false .bool, run := fun x => g_i_ValidClip x.1 }
set_option maxRecDepth 4000 in
theorem ok_i_ValidClip : FmOK Tryz.prog 117 m_i_ValidClip := @FmOK.made Tryz.prog E_i_ValidClip ek_i_ValidClip 117 Tryz.f117 (lookL ll_i_ValidClip) m_i_ValidClip Tryz.func117 (by kernel_rfl) lo_i_ValidClip fun ds out _ hr => by obtain ⟨c, ⟨⟩⟩ := ds; exact (ev_i_ValidClip c).trans hr

def E_i_areClips_1 : Tabs := (mkE tab [(117, m_i_ValidClip)] [])
set_option maxRecDepth 4000 in
theorem ek_i_areClips_1 : EnvOK Tryz.prog E_i_areClips_1 := (mkE_ok tab_ok mixed (AllF.cons ok_i_ValidClip AllF.nil) AllX.nil)
theorem ev_i_areClips_1 (c : dClip) (p1 : (List dClip)) : evalF E_i_areClips_1 noL Tryz.f116 [.ro true tClip, .rptr (.slice tClip)] (.one false .bool) (c, p1, ()) = g_i_areClips_1 c p1 := by kernel_rfl
def m_i_areClips_1 : FM := { ps := [.ro true tClip, .rptr (.slice tClip)], res := .one false .bool, run := fun x => g_i_areClips_1 x.1 x.2.1 }
set_option maxRecDepth 4000 in
theorem ok_i_areClips_1 : FmOK Tryz.prog 116 m_i_areClips_1 := @FmOK.made Tryz.prog E_i_areClips_1 ek_i_areClips_1 116 Tryz.f116 noL m_i_areClips_1 Tryz.func116 (by kernel_rfl) (Loops.none (by kernel_rfl)) fun ds out _ hr => by obtain ⟨c, p1, ⟨⟩⟩ := ds; exact (ev_i_areClips_1 c p1).trans hr

def E_slices_IndexFunc_i_Clip_i_Clip : Tabs := (mkE tab [(116, m_i_areClips_1)] [])
set_option maxRecDepth 4000 in
theorem ek_slices_IndexFunc_i_Clip_i_Clip : EnvOK Tryz.prog E_slices_IndexFunc_i_Clip_i_Clip := (mkE_ok tab_ok mixed (AllF.cons ok_i_areClips_1 AllF.nil) AllX.nil)
def lm_L_slices_IndexFunc_i_Clip_i_Clip_1 : LM := { mat := [], head := { slots := [(0, .dat false (.slice tClip)), (1, .fnc 116 [(.slice tClip)]), (4, .dat false (.int .i64)), (7, .dat false (.int .i64)), (8, .dat false (.int .i64))], blks := [] }, out := { slots := [(4, .dat false (.int .i64))], blks := [] }, ex := 0, rets := true, run := iter L_slices_IndexFunc_i_Clip_i_Clip_1 fuel }
def ll_slices_IndexFunc_i_Clip_i_Clip : List (Nat × LP) := [(2, .lm lm_L_slices_IndexFunc_i_Clip_i_Clip_1)]
theorem rd_L_slices_IndexFunc_i_Clip_i_Clip_1 (rec' : ((List dClip) × ((List dClip) × Unit) × Int × Int × Int × Unit) × (Unit) → Option (Bool × ((Int × Unit) × (Unit)))) (s : (List dClip)) (f : ((List dClip) × Unit)) (t4 : Int) (t7 : Int) (t8 : Int) : round E_slices_IndexFunc_i_Clip_i_Clip (lookL ll_slices_IndexFunc_i_Clip_i_Clip) lm_L_slices_IndexFunc_i_Clip_i_Clip_1 19 (loopAt Tryz.f153 0) rec' ((s, f, t4, t7, t8, ()), (())) = L_slices_IndexFunc_i_Clip_i_Clip_1 rec' ((s, f, t4, t7, t8, ()), (())) := by kernel_rfl
theorem lo_slices_IndexFunc_i_Clip_i_Clip : Loops E_slices_IndexFunc_i_Clip_i_Clip (lookL ll_slices_IndexFunc_i_Clip_i_Clip) Tryz.f153 := Loops.list (by kernel_rfl) (by kernel_rfl) ⟨LoopOK.iter (step := L_slices_IndexFunc_i_Clip_i_Clip_1) (N := fun _ => fuel) (fun rec' x => by obtain ⟨⟨s, f, t4, t7, t8, ⟨⟩⟩, ⟨⟨⟩⟩⟩ := x; exact rd_L_slices_IndexFunc_i_Clip_i_Clip_1 rec' s f t4 t7 t8) fun _ => rfl, trivial⟩
theorem ev_slices_IndexFunc_i_Clip_i_Clip (s : (List dClip)) (f : ((List dClip) × Unit)) : evalF E_slices_IndexFunc_i_Clip_i_Clip (lookL ll_slices_IndexFunc_i_Clip_i_Clip) Tryz.f153 [.ro false (.slice tClip), .fnc 116 [(.slice tClip)]] (.one false (.int .i64)) (s, f, ()) = g_slices_IndexFunc_i_Clip_i_Clip s f := by kernel_rfl
def m_slices_IndexFunc_i_Clip_i_Clip : FM := { ps := [.ro false (.slice tClip), .fnc 116 [(.slice tClip)]], res := .one false (.int .i64), run := fun x => g_slices_IndexFunc_i_Clip_i_Clip x.1 x.2.1 }
set_option maxRecDepth 4000 in
theorem ok_slices_IndexFunc_i_Clip_i_Clip : FmOK Tryz.prog 153 m_slices_IndexFunc_i_Clip_i_Clip := @FmOK.made Tryz.prog E_slices_IndexFunc_i_Clip_i_Clip ek_slices_IndexFunc_i_Clip_i_Clip 153 Tryz.f153 (lookL ll_slices_IndexFunc_i_Clip_i_Clip) m_slices_IndexFunc_i_Clip_i_Clip Tryz.func153 (by kernel_rfl) lo_slices_IndexFunc_i_Clip_i_Clip fun ds out _ hr => by obtain ⟨s, f, ⟨⟩⟩ := ds; exact (ev_slices_IndexFunc_i_Clip_i_Clip s f).trans hr

def E_slices_ContainsFunc_i_Clip_i_Clip : Tabs := (mkE tab [(153, m_slices_IndexFunc_i_Clip_i_Clip)] [])
set_option maxRecDepth 4000 in
theorem ek_slices_ContainsFunc_i_Clip_i_Clip : EnvOK Tryz.prog E_slices_ContainsFunc_i_Clip_i_Clip := (mkE_ok tab_ok mixed (AllF.cons ok_slices_IndexFunc_i_Clip_i_Clip AllF.nil) AllX.nil)
theorem ev_slices_ContainsFunc_i_Clip_i_Clip (s : (List dClip)) (f : ((List dClip) × Unit)) : evalF E_slices_ContainsFunc_i_Clip_i_Clip noL Tryz.f115 [.ro false (.slice tClip), .fnc 116 [(.slice tClip)]] (.one false .bool) (s, f, ()) = g_slices_ContainsFunc_i_Clip_i_Clip s f := by kernel_rfl
def m_slices_ContainsFunc_i_Clip_i_Clip : FM := { ps := [.ro false (.slice tClip), .fnc 116 [(.slice tClip)]], res := .one false .bool, run := fun x => g_slices_ContainsFunc_i_Clip_i_Clip x.1 x.2.1 }
set_option maxRecDepth 4000 in
theorem ok_slices_ContainsFunc_i_Clip_i_Clip : FmOK Tryz.prog 115 m_slices_ContainsFunc_i_Clip_i_Clip := @FmOK.made Tryz.prog E_slices_ContainsFunc_i_Clip_i_Clip ek_slices_ContainsFunc_i_Clip_i_Clip 115 Tryz.f115 noL m_slices_ContainsFunc_i_Clip_i_Clip Tryz.func115 (by kernel_rfl) (Loops.none (by kernel_rfl)) fun ds out _ hr => by obtain ⟨s, f, ⟨⟩⟩ := ds; exact (ev_slices_ContainsFunc_i_Clip_i_Clip s f).trans hr

def E_i_areClips : Tabs := (mkE tab [(115, m_slices_ContainsFunc_i_Clip_i_Clip)] [])
set_option maxRecDepth 4000 in
theorem ek_i_areClips : EnvOK Tryz.prog E_i_areClips := (mkE_ok tab_ok mixed (AllF.cons ok_slices_ContainsFunc_i_Clip_i_Clip AllF.nil) AllX.nil)
theorem ev_i_areClips (clips : (List dClip)) : evalF E_i_areClips noL Tryz.f67 [.ro false (.slice tClip)] (.one false .bool) (clips, ()) = g_i_areClips clips := by kernel_rfl
def m_i_areClips : FM := { ps := [.ro false (.slice tClip)], res := .one false .bool, run := fun x => g_i_areClips x.1 }
set_option maxRecDepth 4000 in
theorem ok_i_areClips : FmOK Tryz.prog 67 m_i_areClips := @FmOK.made Tryz.prog E_i_areClips ek_i_areClips 67 Tryz.f67 noL m_i_areClips Tryz.func67 (by kernel_rfl) (Loops.none (by kernel_rfl)) fun ds out _ hr => by obtain ⟨clips, ⟨⟩⟩ := ds; exact (ev_i_areClips clips).trans hr

def E_i_ValidMachine_1 : Tabs := (mkE tab [] [])
set_option maxRecDepth 4000 in
theorem ek_i_ValidMachine_1 : EnvOK Tryz.prog E_i_ValidMachine_1 := (mkE_ok tab_ok mixed AllF.nil AllX.nil)
theorem ev_i_ValidMachine_1 (r : dRule) (p1 : Int) : evalF E_i_ValidMachine_1 noL Tryz.f138 [.ro true tRule, .rptr (.int .i64)] (.one false .bool) (r, p1, ()) = g_i_ValidMachine_1 r p1 := by kernel_rfl
def m_i_ValidMachine_1 : FM := { ps := [.ro true tRule, .rptr (.int .i64)], res := .one false .bool, run := fun x => some (t_i_ValidMachine_1 x.1 x.2.1) }
set_option maxRecDepth 4000 in
theorem ok_i_ValidMachine_1 : FmOK Tryz.prog 138 m_i_ValidMachine_1 := @FmOK.made Tryz.prog E_i_ValidMachine_1 ek_i_ValidMachine_1 138 Tryz.f138 noL m_i_ValidMachine_1 Tryz.func138 (by kernel_rfl) (Loops.none (by kernel_rfl)) fun ds out _ hr => by obtain ⟨r, p1, ⟨⟩⟩ := ds; exact (ev_i_ValidMachine_1 r p1).trans ((q_i_ValidMachine_1 r p1).trans hr)

def E_slices_IndexFunc_i_Rule_i_Rule : Tabs := (mkE tab [(138, m_i_ValidMachine_1)] [])
set_option maxRecDepth 4000 in
theorem ek_slices_IndexFunc_i_Rule_i_Rule : EnvOK Tryz.prog E_slices_IndexFunc_i_Rule_i_Rule := (mkE_ok tab_ok mixed (AllF.cons ok_i_ValidMachine_1 AllF.nil) AllX.nil)
def lm_L_slices_IndexFunc_i_Rule_i_Rule_1 : LM := { mat := [], head := { slots := [(0, .dat false (.slice tRule)), (1, .fnc 138 [(.int .i64)]), (4, .dat false (.int .i64)), (7, .dat false (.int .i64)), (8, .dat false (.int .i64))], blks := [] }, out := { slots := [(4, .dat false (.int .i64))], blks := [] }, ex := 0, rets := true, run := iter L_slices_IndexFunc_i_Rule_i_Rule_1 fuel }
def ll_slices_IndexFunc_i_Rule_i_Rule : List (Nat × LP) := [(2, .lm lm_L_slices_IndexFunc_i_Rule_i_Rule_1)]
theorem rd_L_slices_IndexFunc_i_Rule_i_Rule_1 (rec' : ((List dRule) × (Int × Unit) × Int × Int × Int × Unit) × (Unit) → Option (Bool × ((Int × Unit) × (Unit)))) (s : (List dRule)) (f : (Int × Unit)) (t4 : Int) (t7 : Int) (t8 : Int) : round E_slices_IndexFunc_i_Rule_i_Rule (lookL ll_slices_IndexFunc_i_Rule_i_Rule) lm_L_slices_IndexFunc_i_Rule_i_Rule_1 19 (loopAt Tryz.f140 0) rec' ((s, f, t4, t7, t8, ()), (())) = L_slices_IndexFunc_i_Rule_i_Rule_1 rec' ((s, f, t4, t7, t8, ()), (())) := by kernel_rfl
theorem lo_slices_IndexFunc_i_Rule_i_Rule : Loops E_slices_IndexFunc_i_Rule_i_Rule (lookL ll_slices_IndexFunc_i_Rule_i_Rule) Tryz.f140 := Loops.list (by kernel_rfl) (by kernel_rfl) ⟨LoopOK.iter (step := L_slices_IndexFunc_i_Rule_i_Rule_1) (N := fun _ => fuel) (fun rec' x => by obtain ⟨⟨s, f, t4, t7, t8, ⟨⟩⟩, ⟨⟨⟩⟩⟩ := x; exact rd_L_slices_IndexFunc_i_Rule_i_Rule_1 rec' s f t4 t7 t8) fun _ => rfl, trivial⟩
theorem ev_slices_IndexFunc_i_Rule_i_Rule (s : (List dRule)) (f : (Int × Unit)) : evalF E_slices_IndexFunc_i_Rule_i_Rule (lookL ll_slices_IndexFunc_i_Rule_i_Rule) Tryz.f140 [.ro false (.slice tRule), .fnc 138 [(.int .i64)]] (.one false (.int .i64)) (s, f, ()) = g_slices_IndexFunc_i_Rule_i_Rule s f := by kernel_rfl
def m_slices_IndexFunc_i_Rule_i_Rule : FM := { ps := [.ro false (.slice tRule), .fnc 138 [(.int .i64)]], res := .one false (.int .i64), run := fun x => g_slices_IndexFunc_i_Rule_i_Rule x.1 x.2.1 }
set_option maxRecDepth 4000 in
theorem ok_slices_IndexFunc_i_Rule_i_Rule : FmOK Tryz.prog 140 m_slices_IndexFunc_i_Rule_i_Rule := @FmOK.made Tryz.prog E_slices_IndexFunc_i_Rule_i_Rule ek_slices_IndexFunc_i_Rule_i_Rule 140 Tryz.f140 (lookL ll_slices_IndexFunc_i_Rule_i_Rule) m_slices_IndexFunc_i_Rule_i_Rule Tryz.func140 (by kernel_rfl) lo_slices_IndexFunc_i_Rule_i_Rule fun ds out _ hr => by obtain ⟨s, f, ⟨⟩⟩ := ds; exact (ev_slices_IndexFunc_i_Rule_i_Rule s f).trans hr

def E_slices_ContainsFunc_i_Rule_i_Rule : Tabs := (mkE tab [(140, m_slices_IndexFunc_i_Rule_i_Rule)] [])
set_option maxRecDepth 4000 in
theorem ek_slices_ContainsFunc_i_Rule_i_Rule : EnvOK Tryz.prog E_slices_ContainsFunc_i_Rule_i_Rule := (mkE_ok tab_ok mixed (AllF.cons ok_slices_IndexFunc_i_Rule_i_Rule AllF.nil) AllX.nil)
theorem ev_slices_ContainsFunc_i_Rule_i_Rule (s : (List dRule)) (f : (Int × Unit)) : evalF E_slices_ContainsFunc_i_Rule_i_Rule noL Tryz.f137 [.ro false (.slice tRule), .fnc 138 [(.int .i64)]] (.one false .bool) (s, f, ()) = g_slices_ContainsFunc_i_Rule_i_Rule s f := by kernel_rfl
def m_slices_ContainsFunc_i_Rule_i_Rule : FM := { ps := [.ro false (.slice tRule), .fnc 138 [(.int .i64)]], res := .one false .bool, run := fun x => g_slices_ContainsFunc_i_Rule_i_Rule x.1 x.2.1 }
set_option maxRecDepth 4000 in
theorem ok_slices_ContainsFunc_i_Rule_i_Rule : FmOK Tryz.prog 137 m_slices_ContainsFunc_i_Rule_i_Rule := @FmOK.made Tryz.prog E_slices_ContainsFunc_i_Rule_i_Rule ek_slices_ContainsFunc_i_Rule_i_Rule 137 Tryz.f137 noL m_slices_ContainsFunc_i_Rule_i_Rule Tryz.func137 (by kernel_rfl) (Loops.none (by kernel_rfl)) fun ds out _ hr => by obtain ⟨s, f, ⟨⟩⟩ := ds; exact (ev_slices_ContainsFunc_i_Rule_i_Rule s f).trans hr

def E_i_ValidMachine : Tabs := (mkE tab [(67, m_i_areClips), (137, m_slices_ContainsFunc_i_Rule_i_Rule)] [])
set_option maxRecDepth 4000 in
theorem ek_i_ValidMachine : EnvOK Tryz.prog E_i_ValidMachine := (mkE_ok tab_ok mixed (AllF.cons ok_i_areClips (AllF.cons ok_slices_ContainsFunc_i_Rule_i_Rule AllF.nil)) AllX.nil)
def lm_L_i_ValidMachine_1 : LM := { mat := [], head := { slots := [(1, .cst (.ptr (.box 0 0))), (2, .dat false .bool), (29, .dat false (.slice tState)), (30, .dat false (.int .i64)), (31, .dat false (.int .i64))], blks := [.box [.dat tMachine]] }, out := { slots := [(1, .cst (.ptr (.box 0 0))), (2, .dat false .bool)], blks := [.box [.dat tMachine]] }, ex := 0, rets := true, run := iter L_i_ValidMachine_1 fuel }
def ll_i_ValidMachine : List (Nat × LP) := [(4, .lm lm_L_i_ValidMachine_1)]
theorem rd_L_i_ValidMachine_1 (rec' : (Bool × (List dState) × Int × Int × Unit) × ((dMachine × Unit) × Unit) → Option (Bool × ((Bool × Unit) × ((dMachine × Unit) × Unit)))) (t2 : Bool) (t29 : (List dState)) (t30 : Int) (t31 : Int) (b0 : dMachine) : round E_i_ValidMachine (lookL ll_i_ValidMachine) lm_L_i_ValidMachine_1 65 (loopAt Tryz.f95 0) rec' ((t2, t29, t30, t31, ()), ((b0, ()), ())) = L_i_ValidMachine_1 rec' ((t2, t29, t30, t31, ()), ((b0, ()), ())) := by kernel_rfl
theorem lo_i_ValidMachine : Loops E_i_ValidMachine (lookL ll_i_ValidMachine) Tryz.f95 := Loops.list (by kernel_rfl) (by kernel_rfl) ⟨LoopOK.iter (step := L_i_ValidMachine_1) (N := fun _ => fuel) (fun rec' x => by obtain ⟨⟨t2, t29, t30, t31, ⟨⟩⟩, ⟨⟨b0, ⟨⟩⟩, ⟨⟩⟩⟩ := x; exact rd_L_i_ValidMachine_1 rec' t2 t29 t30 t31 b0) fun _ => rfl, trivial⟩
theorem ev_i_ValidMachine (m : dMachine) : evalF E_i_ValidMachine (lookL ll_i_ValidMachine) Tryz.f95 [.ro true tMachine] (.one false .bool) (m, ()) = g_i_ValidMachine m := by kernel_rfl
def m_i_ValidMachine : FM := { ps := [.ro true tMachine], res := .one false .bool, run := fun x => g_i_ValidMachine x.1 }
set_option maxRecDepth 4000 in
theorem ok_i_ValidMachine : FmOK Tryz.prog 95 m_i_ValidMachine := @FmOK.made Tryz.prog E_i_ValidMachine ek_i_ValidMachine 95 Tryz.f95 (lookL ll_i_ValidMachine) m_i_ValidMachine Tryz.func95 (by kernel_rfl) lo_i_ValidMachine fun ds out _ hr => by obtain ⟨m, ⟨⟩⟩ := ds; exact (ev_i_ValidMachine m).trans hr

def E_i_hasState : Tabs := (mkE tab [(95, m_i_ValidMachine)] [])
set_option maxRecDepth 4000 in
theorem ek_i_hasState : EnvOK Tryz.prog E_i_hasState := (mkE_ok tab_ok mixed (AllF.cons ok_i_ValidMachine AllF.nil) AllX.nil)
theorem ev_i_hasState (m : dMachine) (state : Int) : evalF E_i_hasState noL Tryz.f85 [.ro true tMachine, .ro false (.int .i64)] (.one false .bool) (m, state, ()) = g_i_hasState m state := by kernel_rfl
def m_i_hasState : FM := { ps := [.ro true tMachine, .ro false (.int .i64)], res := .one false .bool, run := fun x => g_i_hasState x.1 x.2.1 }
set_option maxRecDepth 4000 in
theorem ok_i_hasState : FmOK Tryz.prog 85 m_i_hasState := @FmOK.made Tryz.prog E_i_hasState ek_i_hasState 85 Tryz.f85 noL m_i_hasState Tryz.func85 (by kernel_rfl) (Loops.none (by kernel_rfl)) fun ds out _ hr => by obtain ⟨m, state, ⟨⟩⟩ := ds; exact (ev_i_hasState m state).trans hr

def E_slices_Index_int64_int64 : Tabs := (mkE tab [] [])
set_option maxRecDepth 4000 in
theorem ek_slices_Index_int64_int64 : EnvOK Tryz.prog E_slices_Index_int64_int64 := (mkE_ok tab_ok mixed AllF.nil AllX.nil)
def lm_L_slices_Index_int64_int64_1 : LM := { mat := [], head := { slots := [(0, .dat false (.slice (.int .i64))), (1, .dat false (.int .i64)), (4, .dat false (.int .i64)), (7, .dat false (.int .i64)), (8, .dat false (.int .i64))], blks := [] }, out := { slots := [(4, .dat false (.int .i64))], blks := [] }, ex := 0, rets := true, run := iter L_slices_Index_int64_int64_1 fuel }
def ll_slices_Index_int64_int64 : List (Nat × LP) := [(2, .lm lm_L_slices_Index_int64_int64_1)]
theorem rd_L_slices_Index_int64_int64_1 (rec' : ((List Int) × Int × Int × Int × Int × Unit) × (Unit) → Option (Bool × ((Int × Unit) × (Unit)))) (s : (List Int)) (v : Int) (t4 : Int) (t7 : Int) (t8 : Int) : round E_slices_Index_int64_int64 (lookL ll_slices_Index_int64_int64) lm_L_slices_Index_int64_int64_1 19 (loopAt Tryz.f131 0) rec' ((s, v, t4, t7, t8, ()), (())) = L_slices_Index_int64_int64_1 rec' ((s, v, t4, t7, t8, ()), (())) := by kernel_rfl
theorem lo_slices_Index_int64_int64 : Loops E_slices_Index_int64_int64 (lookL ll_slices_Index_int64_int64) Tryz.f131 := Loops.list (by kernel_rfl) (by kernel_rfl) ⟨LoopOK.iter (step := L_slices_Index_int64_int64_1) (N := fun _ => fuel) (fun rec' x => by obtain ⟨⟨s, v, t4, t7, t8, ⟨⟩⟩, ⟨⟨⟩⟩⟩ := x; exact rd_L_slices_Index_int64_int64_1 rec' s v t4 t7 t8) fun _ => rfl, trivial⟩
theorem ev_slices_Index_int64_int64 (s : (List Int)) (v : Int) : evalF E_slices_Index_int64_int64 (lookL ll_slices_Index_int64_int64) Tryz.f131 [.ro false (.slice (.int .i64)), .ro false (.int .i64)] (.one false (.int .i64)) (s, v, ()) = g_slices_Index_int64_int64 s v := by kernel_rfl
def m_slices_Index_int64_int64 : FM := { ps := [.ro false (.slice (.int .i64)), .ro false (.int .i64)], res := .one false (.int .i64), run := fun x => g_slices_Index_int64_int64 x.1 x.2.1 }
set_option maxRecDepth 4000 in
theorem ok_slices_Index_int64_int64 : FmOK Tryz.prog 131 m_slices_Index_int64_int64 := @FmOK.made Tryz.prog E_slices_Index_int64_int64 ek_slices_Index_int64_int64 131 Tryz.f131 (lookL ll_slices_Index_int64_int64) m_slices_Index_int64_int64 Tryz.func131 (by kernel_rfl) lo_slices_Index_int64_int64 fun ds out _ hr => by obtain ⟨s, v, ⟨⟩⟩ := ds; exact (ev_slices_Index_int64_int64 s v).trans hr

def E_slices_Contains_int64_int64 : Tabs := (mkE tab [(131, m_slices_Index_int64_int64)] [])
set_option maxRecDepth 4000 in
theorem ek_slices_Contains_int64_int64 : EnvOK Tryz.prog E_slices_Contains_int64_int64 := (mkE_ok tab_ok mixed (AllF.cons ok_slices_Index_int64_int64 AllF.nil) AllX.nil)
theorem ev_slices_Contains_int64_int64 (s : (List Int)) (v : Int) : evalF E_slices_Contains_int64_int64 noL Tryz.f86 [.ro false (.slice (.int .i64)), .ro false (.int .i64)] (.one false .bool) (s, v, ()) = g_slices_Contains_int64_int64 s v := by kernel_rfl
def m_slices_Contains_int64_int64 : FM := { ps := [.ro false (.slice (.int .i64)), .ro false (.int .i64)], res := .one false .bool, run := fun x => g_slices_Contains_int64_int64 x.1 x.2.1 }
set_option maxRecDepth 4000 in
theorem ok_slices_Contains_int64_int64 : FmOK Tryz.prog 86 m_slices_Contains_int64_int64 := @FmOK.made Tryz.prog E_slices_Contains_int64_int64 ek_slices_Contains_int64_int64 86 Tryz.f86 noL m_slices_Contains_int64_int64 Tryz.func86 (by kernel_rfl) (Loops.none (by kernel_rfl)) fun ds out _ hr => by obtain ⟨s, v, ⟨⟩⟩ := ds; exact (ev_slices_Contains_int64_int64 s v).trans hr



def E_i_ReachedStates : Tabs := (mkE tab [(85, m_i_hasState), (86, m_slices_Contains_int64_int64)] [(87, m_sortInt64)])
set_option maxRecDepth 4000 in
theorem ek_i_ReachedStates : EnvOK Tryz.prog E_i_ReachedStates := (mkE_ok tab_ok mixed (AllF.cons ok_i_hasState (AllF.cons ok_slices_Contains_int64_int64 AllF.nil)) (AllX.cons ok_sortInt64 AllX.nil))
def lm_L_i_ReachedStates_2 : LM := { mat := [], head := { slots := [(2, .cst (.ptr (.box 0 0))), (6, .cst (.sl (.row 1))), (7, .dat false (.int .i64)), (24, .dat false (.slice tRule)), (25, .dat false (.int .i64)), (26, .dat false (.int .i64))], blks := [.box [.dat tMachine], .row false (.int .i64)] }, out := { slots := [(2, .cst (.ptr (.box 0 0))), (6, .cst (.sl (.row 1))), (7, .dat false (.int .i64))], blks := [.box [.dat tMachine], .row false (.int .i64)] }, ex := 2, rets := false, run := iter L_i_ReachedStates_2 fuel }
def lm_L_i_ReachedStates_1 : LM := { mat := [], head := { slots := [(2, .cst (.ptr (.box 0 0))), (6, .cst (.sl (.row 1))), (7, .dat false (.int .i64))], blks := [.box [.dat tMachine], .row false (.int .i64)] }, out := { slots := [(6, .cst (.sl (.row 1)))], blks := [.dead, .row false (.int .i64)] }, ex := 0, rets := false, run := iter L_i_ReachedStates_1 fuel }
def ll_i_ReachedStates : List (Nat × LP) := [(5, .lm lm_L_i_ReachedStates_1), (8, .lm lm_L_i_ReachedStates_2)]
theorem rd_L_i_ReachedStates_2 (rec' : (Int × (List dRule) × Int × Int × Unit) × ((dMachine × Unit) × (List Int) × Unit) → Option ((Int × Unit) × ((dMachine × Unit) × (List Int) × Unit))) (i : Int) (t24 : (List dRule)) (t25 : Int) (t26 : Int) (b0 : dMachine) (r1 : (List Int)) : round E_i_ReachedStates (lookL ll_i_ReachedStates) lm_L_i_ReachedStates_2 76 (loopAt Tryz.f31 1) rec' ((i, t24, t25, t26, ()), ((b0, ()), r1, ())) = L_i_ReachedStates_2 rec' ((i, t24, t25, t26, ()), ((b0, ()), r1, ())) := by kernel_rfl
theorem rd_L_i_ReachedStates_1 (rec' : (Int × Unit) × ((dMachine × Unit) × (List Int) × Unit) → Option ((Unit) × ((List Int) × Unit))) (i : Int) (b0 : dMachine) (r1 : (List Int)) : round E_i_ReachedStates (lookL ll_i_ReachedStates) lm_L_i_ReachedStates_1 76 (loopAt Tryz.f31 0) rec' ((i, ()), ((b0, ()), r1, ())) = L_i_ReachedStates_1 rec' ((i, ()), ((b0, ()), r1, ())) := by kernel_rfl
theorem lo_i_ReachedStates : Loops E_i_ReachedStates (lookL ll_i_ReachedStates) Tryz.f31 := Loops.list (by kernel_rfl) (by kernel_rfl) ⟨LoopOK.iter (step := L_i_ReachedStates_1) (N := fun _ => fuel) (fun rec' x => by obtain ⟨⟨i, ⟨⟩⟩, ⟨⟨b0, ⟨⟩⟩, r1, ⟨⟩⟩⟩ := x; exact rd_L_i_ReachedStates_1 rec' i b0 r1) fun _ => rfl, LoopOK.iter (step := L_i_ReachedStates_2) (N := fun _ => fuel) (fun rec' x => by obtain ⟨⟨i, t24, t25, t26, ⟨⟩⟩, ⟨⟨b0, ⟨⟩⟩, r1, ⟨⟩⟩⟩ := x; exact rd_L_i_ReachedStates_2 rec' i t24 t25 t26 b0 r1) fun _ => rfl, trivial⟩
theorem ev_i_ReachedStates (m : dMachine) (state : Int) : evalF E_i_ReachedStates (lookL ll_i_ReachedStates) Tryz.f31 [.ro true tMachine, .ro false (.int .i64)] (.tup [(false, (.slice (.int .i64))), (false, .bool)]) (m, state, ()) = g_i_ReachedStates m state := by kernel_rfl
def m_i_ReachedStates : FM := { ps := [.ro true tMachine, .ro false (.int .i64)], res := .tup [(false, (.slice (.int .i64))), (false, .bool)], run := fun x => g_i_ReachedStates x.1 x.2.1 }
set_option maxRecDepth 4000 in
theorem ok_i_ReachedStates : FmOK Tryz.prog 31 m_i_ReachedStates := @FmOK.made Tryz.prog E_i_ReachedStates ek_i_ReachedStates 31 Tryz.f31 (lookL ll_i_ReachedStates) m_i_ReachedStates Tryz.func31 (by kernel_rfl) lo_i_ReachedStates fun ds out _ hr => by obtain ⟨m, state, ⟨⟩⟩ := ds; exact (ev_i_ReachedStates m state).trans hr

def E_w_eqInt64S : Tabs := (mkE tab [] [])
set_option maxRecDepth 4000 in
theorem ek_w_eqInt64S : EnvOK Tryz.prog E_w_eqInt64S := (mkE_ok tab_ok mixed AllF.nil AllX.nil)
def lm_L_w_eqInt64S_1 : LM := { mat := [], head := { slots := [(0, .dat false (.slice (.int .i64))), (1, .dat false (.slice (.int .i64))), (4, .dat false .bool), (5, .dat false (.int .i64))], blks := [] }, out := { slots := [(4, .dat false .bool)], blks := [] }, ex := 0, rets := true, run := iter L_w_eqInt64S_1 fuel }
def ll_w_eqInt64S : List (Nat × LP) := [(4, .lm lm_L_w_eqInt64S_1)]
theorem rd_L_w_eqInt64S_1 (rec' : ((List Int) × (List Int) × Bool × Int × Unit) × (Unit) → Option (Bool × ((Bool × Unit) × (Unit)))) (a : (List Int)) (b : (List Int)) (t4 : Bool) (i : Int) : round E_w_eqInt64S (lookL ll_w_eqInt64S) lm_L_w_eqInt64S_1 26 (loopAt Tryz.f32 0) rec' ((a, b, t4, i, ()), (())) = L_w_eqInt64S_1 rec' ((a, b, t4, i, ()), (())) := by kernel_rfl
theorem lo_w_eqInt64S : Loops E_w_eqInt64S (lookL ll_w_eqInt64S) Tryz.f32 := Loops.list (by kernel_rfl) (by kernel_rfl) ⟨LoopOK.iter (step := L_w_eqInt64S_1) (N := fun _ => fuel) (fun rec' x => by obtain ⟨⟨a, b, t4, i, ⟨⟩⟩, ⟨⟨⟩⟩⟩ := x; exact rd_L_w_eqInt64S_1 rec' a b t4 i) fun _ => rfl, trivial⟩
theorem ev_w_eqInt64S (a : (List Int)) (b : (List Int)) : evalF E_w_eqInt64S (lookL ll_w_eqInt64S) Tryz.f32 [.ro false (.slice (.int .i64)), .ro false (.slice (.int .i64))] (.one false .bool) (a, b, ()) = g_w_eqInt64S a b := by kernel_rfl
def m_w_eqInt64S : FM := { ps := [.ro false (.slice (.int .i64)), .ro false (.slice (.int .i64))], res := .one false .bool, run := fun x => g_w_eqInt64S x.1 x.2.1 }
set_option maxRecDepth 4000 in
theorem ok_w_eqInt64S : FmOK Tryz.prog 32 m_w_eqInt64S := @FmOK.made Tryz.prog E_w_eqInt64S ek_w_eqInt64S 32 Tryz.f32 (lookL ll_w_eqInt64S) m_w_eqInt64S Tryz.func32 (by kernel_rfl) lo_w_eqInt64S fun ds out _ hr => by obtain ⟨a, b, ⟨⟩⟩ := ds; exact (ev_w_eqInt64S a b).trans hr

def E_w_sameFloat : Tabs := (mkE tab [] [])
set_option maxRecDepth 4000 in
theorem ek_w_sameFloat : EnvOK Tryz.prog E_w_sameFloat := (mkE_ok tab_ok mixed AllF.nil AllX.nil)
theorem ev_w_sameFloat (a : Nat) (b : Nat) : evalF E_w_sameFloat noL Tryz.f55 [.ro false (.flt .f64), .ro false (.flt .f64)] (.one false .bool) (a, b, ()) = g_w_sameFloat a b := by kernel_rfl
def m_w_sameFloat : FM := { ps := [.ro false (.flt .f64), .ro false (.flt .f64)], res := .one false .bool, run := fun x => some (t_w_sameFloat x.1 x.2.1) }
set_option maxRecDepth 4000 in
theorem ok_w_sameFloat : FmOK Tryz.prog 55 m_w_sameFloat := @FmOK.made Tryz.prog E_w_sameFloat ek_w_sameFloat 55 Tryz.f55 noL m_w_sameFloat Tryz.func55 (by kernel_rfl) (Loops.none (by kernel_rfl)) fun ds out _ hr => by obtain ⟨a, b, ⟨⟩⟩ := ds; exact (ev_w_sameFloat a b).trans ((q_w_sameFloat a b).trans hr)

def E_w_eqTurn : Tabs := (mkE tab [(55, m_w_sameFloat)] [])
set_option maxRecDepth 4000 in
theorem ek_w_eqTurn : EnvOK Tryz.prog E_w_eqTurn := (mkE_ok tab_ok mixed (AllF.cons ok_w_sameFloat AllF.nil) AllX.nil)
theorem ev_w_eqTurn (a : dTurn) (b : dTurn) : evalF E_w_eqTurn noL Tryz.f124 [.ro true tTurn, .ro true tTurn] (.one false .bool) (a, b, ()) = g_w_eqTurn a b := by kernel_rfl
def m_w_eqTurn : FM := { ps := [.ro true tTurn, .ro true tTurn], res := .one false .bool, run := fun x => some (t_w_eqTurn x.1 x.2.1) }
set_option maxRecDepth 4000 in
theorem ok_w_eqTurn : FmOK Tryz.prog 124 m_w_eqTurn := @FmOK.made Tryz.prog E_w_eqTurn ek_w_eqTurn 124 Tryz.f124 noL m_w_eqTurn Tryz.func124 (by kernel_rfl) (Loops.none (by kernel_rfl)) fun ds out _ hr => by obtain ⟨a, b, ⟨⟩⟩ := ds; exact (ev_w_eqTurn a b).trans ((q_w_eqTurn a b).trans hr)

def E_w_eqKey : Tabs := (mkE tab [(124, m_w_eqTurn)] [])
set_option maxRecDepth 4000 in
theorem ek_w_eqKey : EnvOK Tryz.prog E_w_eqKey := (mkE_ok tab_ok mixed (AllF.cons ok_w_eqTurn AllF.nil) AllX.nil)
theorem ev_w_eqKey (a : dKey) (b : dKey) : evalF E_w_eqKey noL Tryz.f193 [.ro true tKey, .ro true tKey] (.one false .bool) (a, b, ()) = g_w_eqKey a b := by kernel_rfl
def m_w_eqKey : FM := { ps := [.ro true tKey, .ro true tKey], res := .one false .bool, run := fun x => some (t_w_eqKey x.1 x.2.1) }
set_option maxRecDepth 4000 in
theorem ok_w_eqKey : FmOK Tryz.prog 193 m_w_eqKey := @FmOK.made Tryz.prog E_w_eqKey ek_w_eqKey 193 Tryz.f193 noL m_w_eqKey Tryz.func193 (by kernel_rfl) (Loops.none (by kernel_rfl)) fun ds out _ hr => by obtain ⟨a, b, ⟨⟩⟩ := ds; exact (ev_w_eqKey a b).trans ((q_w_eqKey a b).trans hr)

def E_w_eqKeyS : Tabs := (mkE tab [(193, m_w_eqKey)] [])
set_option maxRecDepth 4000 in
theorem ek_w_eqKeyS : EnvOK Tryz.prog E_w_eqKeyS := (mkE_ok tab_ok mixed (AllF.cons ok_w_eqKey AllF.nil) AllX.nil)
def lm_L_w_eqKeyS_1 : LM := { mat := [], head := { slots := [(0, .dat false (.slice tKey)), (1, .dat false (.slice tKey)), (4, .dat false .bool), (5, .dat false (.int .i64))], blks := [] }, out := { slots := [(4, .dat false .bool)], blks := [] }, ex := 0, rets := true, run := iter L_w_eqKeyS_1 fuel }
def ll_w_eqKeyS : List (Nat × LP) := [(4, .lm lm_L_w_eqKeyS_1)]
theorem rd_L_w_eqKeyS_1 (rec' : ((List dKey) × (List dKey) × Bool × Int × Unit) × (Unit) → Option (Bool × ((Bool × Unit) × (Unit)))) (a : (List dKey)) (b : (List dKey)) (t4 : Bool) (i : Int) : round E_w_eqKeyS (lookL ll_w_eqKeyS) lm_L_w_eqKeyS_1 27 (loopAt Tryz.f166 0) rec' ((a, b, t4, i, ()), (())) = L_w_eqKeyS_1 rec' ((a, b, t4, i, ()), (())) := by kernel_rfl
theorem lo_w_eqKeyS : Loops E_w_eqKeyS (lookL ll_w_eqKeyS) Tryz.f166 := Loops.list (by kernel_rfl) (by kernel_rfl) ⟨LoopOK.iter (step := L_w_eqKeyS_1) (N := fun _ => fuel) (fun rec' x => by obtain ⟨⟨a, b, t4, i, ⟨⟩⟩, ⟨⟨⟩⟩⟩ := x; exact rd_L_w_eqKeyS_1 rec' a b t4 i) fun _ => rfl, trivial⟩
theorem ev_w_eqKeyS (a : (List dKey)) (b : (List dKey)) : evalF E_w_eqKeyS (lookL ll_w_eqKeyS) Tryz.f166 [.ro false (.slice tKey), .ro false (.slice tKey)] (.one false .bool) (a, b, ()) = g_w_eqKeyS a b := by kernel_rfl
def m_w_eqKeyS : FM := { ps := [.ro false (.slice tKey), .ro false (.slice tKey)], res := .one false .bool, run := fun x => g_w_eqKeyS x.1 x.2.1 }
set_option maxRecDepth 4000 in
theorem ok_w_eqKeyS : FmOK Tryz.prog 166 m_w_eqKeyS := @FmOK.made Tryz.prog E_w_eqKeyS ek_w_eqKeyS 166 Tryz.f166 (lookL ll_w_eqKeyS) m_w_eqKeyS Tryz.func166 (by kernel_rfl) lo_w_eqKeyS fun ds out _ hr => by obtain ⟨a, b, ⟨⟩⟩ := ds; exact (ev_w_eqKeyS a b).trans hr

def E_w_eqKeySS : Tabs := (mkE tab [(166, m_w_eqKeyS)] [])
set_option maxRecDepth 4000 in
theorem ek_w_eqKeySS : EnvOK Tryz.prog E_w_eqKeySS := (mkE_ok tab_ok mixed (AllF.cons ok_w_eqKeyS AllF.nil) AllX.nil)
def lm_L_w_eqKeySS_1 : LM := { mat := [], head := { slots := [(0, .dat false (.slice (.slice tKey))), (1, .dat false (.slice (.slice tKey))), (4, .dat false .bool), (5, .dat false (.int .i64))], blks := [] }, out := { slots := [(4, .dat false .bool)], blks := [] }, ex := 0, rets := true, run := iter L_w_eqKeySS_1 fuel }
def ll_w_eqKeySS : List (Nat × LP) := [(4, .lm lm_L_w_eqKeySS_1)]
theorem rd_L_w_eqKeySS_1 (rec' : ((List (List dKey)) × (List (List dKey)) × Bool × Int × Unit) × (Unit) → Option (Bool × ((Bool × Unit) × (Unit)))) (a : (List (List dKey))) (b : (List (List dKey))) (t4 : Bool) (i : Int) : round E_w_eqKeySS (lookL ll_w_eqKeySS) lm_L_w_eqKeySS_1 27 (loopAt Tryz.f125 0) rec' ((a, b, t4, i, ()), (())) = L_w_eqKeySS_1 rec' ((a, b, t4, i, ()), (())) := by kernel_rfl
theorem lo_w_eqKeySS : Loops E_w_eqKeySS (lookL ll_w_eqKeySS) Tryz.f125 := Loops.list (by kernel_rfl) (by kernel_rfl) ⟨LoopOK.iter (step := L_w_eqKeySS_1) (N := fun _ => fuel) (fun rec' x => by obtain ⟨⟨a, b, t4, i, ⟨⟩⟩, ⟨⟨⟩⟩⟩ := x; exact rd_L_w_eqKeySS_1 rec' a b t4 i) fun _ => rfl, trivial⟩
theorem ev_w_eqKeySS (a : (List (List dKey))) (b : (List (List dKey))) : evalF E_w_eqKeySS (lookL ll_w_eqKeySS) Tryz.f125 [.ro false (.slice (.slice tKey)), .ro false (.slice (.slice tKey))] (.one false .bool) (a, b, ()) = g_w_eqKeySS a b := by kernel_rfl
def m_w_eqKeySS : FM := { ps := [.ro false (.slice (.slice tKey)), .ro false (.slice (.slice tKey))], res := .one false .bool, run := fun x => g_w_eqKeySS x.1 x.2.1 }
set_option maxRecDepth 4000 in
theorem ok_w_eqKeySS : FmOK Tryz.prog 125 m_w_eqKeySS := @FmOK.made Tryz.prog E_w_eqKeySS ek_w_eqKeySS 125 Tryz.f125 (lookL ll_w_eqKeySS) m_w_eqKeySS Tryz.func125 (by kernel_rfl) lo_w_eqKeySS fun ds out _ hr => by obtain ⟨a, b, ⟨⟩⟩ := ds; exact (ev_w_eqKeySS a b).trans hr

def E_w_eqVector : Tabs := (mkE tab [(55, m_w_sameFloat)] [])
set_option maxRecDepth 4000 in
theorem ek_w_eqVector : EnvOK Tryz.prog E_w_eqVector := (mkE_ok tab_ok mixed (AllF.cons ok_w_sameFloat AllF.nil) AllX.nil)
theorem ev_w_eqVector (a : dVec) (b : dVec) : evalF E_w_eqVector noL Tryz.f72 [.ro true tVec, .ro true tVec] (.one false .bool) (a, b, ()) = g_w_eqVector a b := by kernel_rfl
def m_w_eqVector : FM := { ps := [.ro true tVec, .ro true tVec], res := .one false .bool, run := fun x => some (t_w_eqVector x.1 x.2.1) }
set_option maxRecDepth 4000 in
theorem ok_w_eqVector : FmOK Tryz.prog 72 m_w_eqVector := @FmOK.made Tryz.prog E_w_eqVector ek_w_eqVector 72 Tryz.f72 noL m_w_eqVector Tryz.func72 (by kernel_rfl) (Loops.none (by kernel_rfl)) fun ds out _ hr => by obtain ⟨a, b, ⟨⟩⟩ := ds; exact (ev_w_eqVector a b).trans ((q_w_eqVector a b).trans hr)

def E_w_eqRootKey : Tabs := (mkE tab [(72, m_w_eqVector)] [])
set_option maxRecDepth 4000 in
theorem ek_w_eqRootKey : EnvOK Tryz.prog E_w_eqRootKey := (mkE_ok tab_ok mixed (AllF.cons ok_w_eqVector AllF.nil) AllX.nil)
theorem ev_w_eqRootKey (a : dRootKey) (b : dRootKey) : evalF E_w_eqRootKey noL Tryz.f167 [.ro true tRootKey, .ro true tRootKey] (.one false .bool) (a, b, ()) = g_w_eqRootKey a b := by kernel_rfl
def m_w_eqRootKey : FM := { ps := [.ro true tRootKey, .ro true tRootKey], res := .one false .bool, run := fun x => some (t_w_eqRootKey x.1 x.2.1) }
set_option maxRecDepth 4000 in
theorem ok_w_eqRootKey : FmOK Tryz.prog 167 m_w_eqRootKey := @FmOK.made Tryz.prog E_w_eqRootKey ek_w_eqRootKey 167 Tryz.f167 noL m_w_eqRootKey Tryz.func167 (by kernel_rfl) (Loops.none (by kernel_rfl)) fun ds out _ hr => by obtain ⟨a, b, ⟨⟩⟩ := ds; exact (ev_w_eqRootKey a b).trans ((q_w_eqRootKey a b).trans hr)

def E_w_eqRootKeyS : Tabs := (mkE tab [(167, m_w_eqRootKey)] [])
set_option maxRecDepth 4000 in
theorem ek_w_eqRootKeyS : EnvOK Tryz.prog E_w_eqRootKeyS := (mkE_ok tab_ok mixed (AllF.cons ok_w_eqRootKey AllF.nil) AllX.nil)
def lm_L_w_eqRootKeyS_1 : LM := { mat := [], head := { slots := [(0, .dat false (.slice tRootKey)), (1, .dat false (.slice tRootKey)), (4, .dat false .bool), (5, .dat false (.int .i64))], blks := [] }, out := { slots := [(4, .dat false .bool)], blks := [] }, ex := 0, rets := true, run := iter L_w_eqRootKeyS_1 fuel }
def ll_w_eqRootKeyS : List (Nat × LP) := [(4, .lm lm_L_w_eqRootKeyS_1)]
theorem rd_L_w_eqRootKeyS_1 (rec' : ((List dRootKey) × (List dRootKey) × Bool × Int × Unit) × (Unit) → Option (Bool × ((Bool × Unit) × (Unit)))) (a : (List dRootKey)) (b : (List dRootKey)) (t4 : Bool) (i : Int) : round E_w_eqRootKeyS (lookL ll_w_eqRootKeyS) lm_L_w_eqRootKeyS_1 27 (loopAt Tryz.f126 0) rec' ((a, b, t4, i, ()), (())) = L_w_eqRootKeyS_1 rec' ((a, b, t4, i, ()), (())) := by kernel_rfl
theorem lo_w_eqRootKeyS : Loops E_w_eqRootKeyS (lookL ll_w_eqRootKeyS) Tryz.f126 := Loops.list (by kernel_rfl) (by kernel_rfl) ⟨LoopOK.iter (step := L_w_eqRootKeyS_1) (N := fun _ => fuel) (fun rec' x => by obtain ⟨⟨a, b, t4, i, ⟨⟩⟩, ⟨⟨⟩⟩⟩ := x; exact rd_L_w_eqRootKeyS_1 rec' a b t4 i) fun _ => rfl, trivial⟩
theorem ev_w_eqRootKeyS (a : (List dRootKey)) (b : (List dRootKey)) : evalF E_w_eqRootKeyS (lookL ll_w_eqRootKeyS) Tryz.f126 [.ro false (.slice tRootKey), .ro false (.slice tRootKey)] (.one false .bool) (a, b, ()) = g_w_eqRootKeyS a b := by kernel_rfl
def m_w_eqRootKeyS : FM := { ps := [.ro false (.slice tRootKey), .ro false (.slice tRootKey)], res := .one false .bool, run := fun x => g_w_eqRootKeyS x.1 x.2.1 }
set_option maxRecDepth 4000 in
theorem ok_w_eqRootKeyS : FmOK Tryz.prog 126 m_w_eqRootKeyS := @FmOK.made Tryz.prog E_w_eqRootKeyS ek_w_eqRootKeyS 126 Tryz.f126 (lookL ll_w_eqRootKeyS) m_w_eqRootKeyS Tryz.func126 (by kernel_rfl) lo_w_eqRootKeyS fun ds out _ hr => by obtain ⟨a, b, ⟨⟩⟩ := ds; exact (ev_w_eqRootKeyS a b).trans hr

def E_w_eqClip : Tabs := (mkE tab [(125, m_w_eqKeySS), (126, m_w_eqRootKeyS)] [])
set_option maxRecDepth 4000 in
theorem ek_w_eqClip : EnvOK Tryz.prog E_w_eqClip := (mkE_ok tab_ok mixed (AllF.cons ok_w_eqKeySS (AllF.cons ok_w_eqRootKeyS AllF.nil)) AllX.nil)
theorem ev_w_eqClip (a : dClip) (b : dClip) : evalF E_w_eqClip noL Tryz.f74 [.ro true tClip, .ro true tClip] (.one false .bool) (a, b, ()) = g_w_eqClip a b := by kernel_rfl
def m_w_eqClip : FM := { ps := [.ro true tClip, .ro true tClip], res := .one false .bool, run := fun x => g_w_eqClip x.1 x.2.1 }
set_option maxRecDepth 4000 in
theorem ok_w_eqClip : FmOK Tryz.prog 74 m_w_eqClip := @FmOK.made Tryz.prog E_w_eqClip ek_w_eqClip 74 Tryz.f74 noL m_w_eqClip Tryz.func74 (by kernel_rfl) (Loops.none (by kernel_rfl)) fun ds out _ hr => by obtain ⟨a, b, ⟨⟩⟩ := ds; exact (ev_w_eqClip a b).trans hr

def E_w_eqClipS : Tabs := (mkE tab [(74, m_w_eqClip)] [])
set_option maxRecDepth 4000 in
theorem ek_w_eqClipS : EnvOK Tryz.prog E_w_eqClipS := (mkE_ok tab_ok mixed (AllF.cons ok_w_eqClip AllF.nil) AllX.nil)
def lm_L_w_eqClipS_1 : LM := { mat := [], head := { slots := [(0, .dat false (.slice tClip)), (1, .dat false (.slice tClip)), (4, .dat false .bool), (5, .dat false (.int .i64))], blks := [] }, out := { slots := [(4, .dat false .bool)], blks := [] }, ex := 0, rets := true, run := iter L_w_eqClipS_1 fuel }
def ll_w_eqClipS : List (Nat × LP) := [(4, .lm lm_L_w_eqClipS_1)]
theorem rd_L_w_eqClipS_1 (rec' : ((List dClip) × (List dClip) × Bool × Int × Unit) × (Unit) → Option (Bool × ((Bool × Unit) × (Unit)))) (a : (List dClip)) (b : (List dClip)) (t4 : Bool) (i : Int) : round E_w_eqClipS (lookL ll_w_eqClipS) lm_L_w_eqClipS_1 27 (loopAt Tryz.f22 0) rec' ((a, b, t4, i, ()), (())) = L_w_eqClipS_1 rec' ((a, b, t4, i, ()), (())) := by kernel_rfl
theorem lo_w_eqClipS : Loops E_w_eqClipS (lookL ll_w_eqClipS) Tryz.f22 := Loops.list (by kernel_rfl) (by kernel_rfl) ⟨LoopOK.iter (step := L_w_eqClipS_1) (N := fun _ => fuel) (fun rec' x => by obtain ⟨⟨a, b, t4, i, ⟨⟩⟩, ⟨⟨⟩⟩⟩ := x; exact rd_L_w_eqClipS_1 rec' a b t4 i) fun _ => rfl, trivial⟩
theorem ev_w_eqClipS (a : (List dClip)) (b : (List dClip)) : evalF E_w_eqClipS (lookL ll_w_eqClipS) Tryz.f22 [.ro false (.slice tClip), .ro false (.slice tClip)] (.one false .bool) (a, b, ()) = g_w_eqClipS a b := by kernel_rfl
def m_w_eqClipS : FM := { ps := [.ro false (.slice tClip), .ro false (.slice tClip)], res := .one false .bool, run := fun x => g_w_eqClipS x.1 x.2.1 }
set_option maxRecDepth 4000 in
theorem ok_w_eqClipS : FmOK Tryz.prog 22 m_w_eqClipS := @FmOK.made Tryz.prog E_w_eqClipS ek_w_eqClipS 22 Tryz.f22 (lookL ll_w_eqClipS) m_w_eqClipS Tryz.func22 (by kernel_rfl) lo_w_eqClipS fun ds out _ hr => by obtain ⟨a, b, ⟨⟩⟩ := ds; exact (ev_w_eqClipS a b).trans hr

def E_w_eqState : Tabs := (mkE tab [] [])
set_option maxRecDepth 4000 in
theorem ek_w_eqState : EnvOK Tryz.prog E_w_eqState := (mkE_ok tab_ok mixed AllF.nil AllX.nil)
theorem ev_w_eqState (a : dState) (b : dState) : evalF E_w_eqState noL Tryz.f99 [.ro true tState, .ro true tState] (.one false .bool) (a, b, ()) = g_w_eqState a b := by kernel_rfl
def m_w_eqState : FM := { ps := [.ro true tState, .ro true tState], res := .one false .bool, run := fun x => some (t_w_eqState x.1 x.2.1) }
set_option maxRecDepth 4000 in
theorem ok_w_eqState : FmOK Tryz.prog 99 m_w_eqState := @FmOK.made Tryz.prog E_w_eqState ek_w_eqState 99 Tryz.f99 noL m_w_eqState Tryz.func99 (by kernel_rfl) (Loops.none (by kernel_rfl)) fun ds out _ hr => by obtain ⟨a, b, ⟨⟩⟩ := ds; exact (ev_w_eqState a b).trans ((q_w_eqState a b).trans hr)

def E_w_eqStateS : Tabs := (mkE tab [(99, m_w_eqState)] [])
set_option maxRecDepth 4000 in
theorem ek_w_eqStateS : EnvOK Tryz.prog E_w_eqStateS := (mkE_ok tab_ok mixed (AllF.cons ok_w_eqState AllF.nil) AllX.nil)
def lm_L_w_eqStateS_1 : LM := { mat := [], head := { slots := [(0, .dat false (.slice tState)), (1, .dat false (.slice tState)), (4, .dat false .bool), (5, .dat false (.int .i64))], blks := [] }, out := { slots := [(4, .dat false .bool)], blks := [] }, ex := 0, rets := true, run := iter L_w_eqStateS_1 fuel }
def ll_w_eqStateS : List (Nat × LP) := [(4, .lm lm_L_w_eqStateS_1)]
theorem rd_L_w_eqStateS_1 (rec' : ((List dState) × (List dState) × Bool × Int × Unit) × (Unit) → Option (Bool × ((Bool × Unit) × (Unit)))) (a : (List dState)) (b : (List dState)) (t4 : Bool) (i : Int) : round E_w_eqStateS (lookL ll_w_eqStateS) lm_L_w_eqStateS_1 27 (loopAt Tryz.f53 0) rec' ((a, b, t4, i, ()), (())) = L_w_eqStateS_1 rec' ((a, b, t4, i, ()), (())) := by kernel_rfl
theorem lo_w_eqStateS : Loops E_w_eqStateS (lookL ll_w_eqStateS) Tryz.f53 := Loops.list (by kernel_rfl) (by kernel_rfl) ⟨LoopOK.iter (step := L_w_eqStateS_1) (N := fun _ => fuel) (fun rec' x => by obtain ⟨⟨a, b, t4, i, ⟨⟩⟩, ⟨⟨⟩⟩⟩ := x; exact rd_L_w_eqStateS_1 rec' a b t4 i) fun _ => rfl, trivial⟩
theorem ev_w_eqStateS (a : (List dState)) (b : (List dState)) : evalF E_w_eqStateS (lookL ll_w_eqStateS) Tryz.f53 [.ro false (.slice tState), .ro false (.slice tState)] (.one false .bool) (a, b, ()) = g_w_eqStateS a b := by kernel_rfl
def m_w_eqStateS : FM := { ps := [.ro false (.slice tState), .ro false (.slice tState)], res := .one false .bool, run := fun x => g_w_eqStateS x.1 x.2.1 }
set_option maxRecDepth 4000 in
theorem ok_w_eqStateS : FmOK Tryz.prog 53 m_w_eqStateS := @FmOK.made Tryz.prog E_w_eqStateS ek_w_eqStateS 53 Tryz.f53 (lookL ll_w_eqStateS) m_w_eqStateS Tryz.func53 (by kernel_rfl) lo_w_eqStateS fun ds out _ hr => by obtain ⟨a, b, ⟨⟩⟩ := ds; exact (ev_w_eqStateS a b).trans hr

def E_w_eqRule : Tabs := (mkE tab [(55, m_w_sameFloat)] [])
set_option maxRecDepth 4000 in
theorem ek_w_eqRule : EnvOK Tryz.prog E_w_eqRule := (mkE_ok tab_ok mixed (AllF.cons ok_w_sameFloat AllF.nil) AllX.nil)
theorem ev_w_eqRule (a : dRule) (b : dRule) : evalF E_w_eqRule noL Tryz.f100 [.ro true tRule, .ro true tRule] (.one false .bool) (a, b, ()) = g_w_eqRule a b := by kernel_rfl
def m_w_eqRule : FM := { ps := [.ro true tRule, .ro true tRule], res := .one false .bool, run := fun x => some (t_w_eqRule x.1 x.2.1) }
set_option maxRecDepth 4000 in
theorem ok_w_eqRule : FmOK Tryz.prog 100 m_w_eqRule := @FmOK.made Tryz.prog E_w_eqRule ek_w_eqRule 100 Tryz.f100 noL m_w_eqRule Tryz.func100 (by kernel_rfl) (Loops.none (by kernel_rfl)) fun ds out _ hr => by obtain ⟨a, b, ⟨⟩⟩ := ds; exact (ev_w_eqRule a b).trans ((q_w_eqRule a b).trans hr)

def E_w_eqRuleS : Tabs := (mkE tab [(100, m_w_eqRule)] [])
set_option maxRecDepth 4000 in
theorem ek_w_eqRuleS : EnvOK Tryz.prog E_w_eqRuleS := (mkE_ok tab_ok mixed (AllF.cons ok_w_eqRule AllF.nil) AllX.nil)
def lm_L_w_eqRuleS_1 : LM := { mat := [], head := { slots := [(0, .dat false (.slice tRule)), (1, .dat false (.slice tRule)), (4, .dat false .bool), (5, .dat false (.int .i64))], blks := [] }, out := { slots := [(4, .dat false .bool)], blks := [] }, ex := 0, rets := true, run := iter L_w_eqRuleS_1 fuel }
def ll_w_eqRuleS : List (Nat × LP) := [(4, .lm lm_L_w_eqRuleS_1)]
theorem rd_L_w_eqRuleS_1 (rec' : ((List dRule) × (List dRule) × Bool × Int × Unit) × (Unit) → Option (Bool × ((Bool × Unit) × (Unit)))) (a : (List dRule)) (b : (List dRule)) (t4 : Bool) (i : Int) : round E_w_eqRuleS (lookL ll_w_eqRuleS) lm_L_w_eqRuleS_1 27 (loopAt Tryz.f54 0) rec' ((a, b, t4, i, ()), (())) = L_w_eqRuleS_1 rec' ((a, b, t4, i, ()), (())) := by kernel_rfl
theorem lo_w_eqRuleS : Loops E_w_eqRuleS (lookL ll_w_eqRuleS) Tryz.f54 := Loops.list (by kernel_rfl) (by kernel_rfl) ⟨LoopOK.iter (step := L_w_eqRuleS_1) (N := fun _ => fuel) (fun rec' x => by obtain ⟨⟨a, b, t4, i, ⟨⟩⟩, ⟨⟨⟩⟩⟩ := x; exact rd_L_w_eqRuleS_1 rec' a b t4 i) fun _ => rfl, trivial⟩
theorem ev_w_eqRuleS (a : (List dRule)) (b : (List dRule)) : evalF E_w_eqRuleS (lookL ll_w_eqRuleS) Tryz.f54 [.ro false (.slice tRule), .ro false (.slice tRule)] (.one false .bool) (a, b, ()) = g_w_eqRuleS a b := by kernel_rfl
def m_w_eqRuleS : FM := { ps := [.ro false (.slice tRule), .ro false (.slice tRule)], res := .one false .bool, run := fun x => g_w_eqRuleS x.1 x.2.1 }
set_option maxRecDepth 4000 in
theorem ok_w_eqRuleS : FmOK Tryz.prog 54 m_w_eqRuleS := @FmOK.made Tryz.prog E_w_eqRuleS ek_w_eqRuleS 54 Tryz.f54 (lookL ll_w_eqRuleS) m_w_eqRuleS Tryz.func54 (by kernel_rfl) lo_w_eqRuleS fun ds out _ hr => by obtain ⟨a, b, ⟨⟩⟩ := ds; exact (ev_w_eqRuleS a b).trans hr

def E_w_eqMachine : Tabs := (mkE tab [(22, m_w_eqClipS), (53, m_w_eqStateS), (54, m_w_eqRuleS)] [])
set_option maxRecDepth 4000 in
theorem ek_w_eqMachine : EnvOK Tryz.prog E_w_eqMachine := (mkE_ok tab_ok mixed (AllF.cons ok_w_eqClipS (AllF.cons ok_w_eqStateS (AllF.cons ok_w_eqRuleS AllF.nil))) AllX.nil)
theorem ev_w_eqMachine (a : dMachine) (b : dMachine) : evalF E_w_eqMachine noL Tryz.f15 [.ro true tMachine, .ro true tMachine] (.one false .bool) (a, b, ()) = g_w_eqMachine a b := by kernel_rfl
def m_w_eqMachine : FM := { ps := [.ro true tMachine, .ro true tMachine], res := .one false .bool, run := fun x => g_w_eqMachine x.1 x.2.1 }
set_option maxRecDepth 4000 in
theorem ok_w_eqMachine : FmOK Tryz.prog 15 m_w_eqMachine := @FmOK.made Tryz.prog E_w_eqMachine ek_w_eqMachine 15 Tryz.f15 noL m_w_eqMachine Tryz.func15 (by kernel_rfl) (Loops.none (by kernel_rfl)) fun ds out _ hr => by obtain ⟨a, b, ⟨⟩⟩ := ds; exact (ev_w_eqMachine a b).trans hr

def E_w_markKeyS : Tabs := (mkE tab [] [])
set_option maxRecDepth 4000 in
theorem ek_w_markKeyS : EnvOK Tryz.prog E_w_markKeyS := (mkE_ok tab_ok mixed AllF.nil AllX.nil)
def lm_L_w_markKeyS_1 : LM := { mat := [], head := { slots := [(0, .cst (.sl (.row 0))), (1, .dat false (.int .i64)), (5, .dat false (.int .i64))], blks := [.row true tKey] }, out := { slots := [(1, .dat false (.int .i64))], blks := [.row true tKey] }, ex := 0, rets := false, run := iter L_w_markKeyS_1 fuel }
def ll_w_markKeyS : List (Nat × LP) := [(2, .lm lm_L_w_markKeyS_1)]
theorem rd_L_w_markKeyS_1 (rec' : (Int × Int × Unit) × ((List dKey) × Unit) → Option ((Int × Unit) × ((List dKey) × Unit))) (k : Int) (i : Int) (r0 : (List dKey)) : round E_w_markKeyS (lookL ll_w_markKeyS) lm_L_w_markKeyS_1 56 (loopAt Tryz.f127 0) rec' ((k, i, ()), (r0, ())) = L_w_markKeyS_1 rec' ((k, i, ()), (r0, ())) := by kernel_rfl
theorem lo_w_markKeyS : Loops E_w_markKeyS (lookL ll_w_markKeyS) Tryz.f127 := Loops.list (by kernel_rfl) (by kernel_rfl) ⟨LoopOK.iter (step := L_w_markKeyS_1) (N := fun _ => fuel) (fun rec' x => by obtain ⟨⟨k, i, ⟨⟩⟩, ⟨r0, ⟨⟩⟩⟩ := x; exact rd_L_w_markKeyS_1 rec' k i r0) fun _ => rfl, trivial⟩
theorem ev_w_markKeyS (a : (List dKey)) (k : Int) : evalX E_w_markKeyS (lookL ll_w_markKeyS) Tryz.f127 [.own false (.slice tKey), .ro false (.int .i64)] (.one false (.int .i64)) (a, k, ()) = g_w_markKeyS a k := by kernel_rfl
def m_w_markKeyS : FX := { ps := [.own false (.slice tKey), .ro false (.int .i64)], res := .one false (.int .i64), run := fun x => g_w_markKeyS x.1 x.2.1 }
set_option maxRecDepth 4000 in
theorem ok_w_markKeyS : FxOK Tryz.prog 127 m_w_markKeyS := @FxOK.made Tryz.prog E_w_markKeyS ek_w_markKeyS 127 Tryz.f127 (lookL ll_w_markKeyS) m_w_markKeyS Tryz.func127 (by kernel_rfl) lo_w_markKeyS fun ds out _ hr => by obtain ⟨a, k, ⟨⟩⟩ := ds; exact (ev_w_markKeyS a k).trans hr

def E_w_markKeySS : Tabs := (mkE tab [] [(127, m_w_markKeyS)])
set_option maxRecDepth 4000 in
theorem ek_w_markKeySS : EnvOK Tryz.prog E_w_markKeySS := (mkE_ok tab_ok mixed AllF.nil (AllX.cons ok_w_markKeyS AllX.nil))
def lm_L_w_markKeySS_1 : LM := { mat := [], head := { slots := [(0, .cst (.sl (.row 0))), (1, .dat false (.int .i64)), (5, .dat false (.int .i64))], blks := [.row true (.slice tKey)] }, out := { slots := [(1, .dat false (.int .i64))], blks := [.row true (.slice tKey)] }, ex := 0, rets := false, run := iter L_w_markKeySS_1 fuel }
def ll_w_markKeySS : List (Nat × LP) := [(2, .lm lm_L_w_markKeySS_1)]
theorem rd_L_w_markKeySS_1 (rec' : (Int × Int × Unit) × ((List (List dKey)) × Unit) → Option ((Int × Unit) × ((List (List dKey)) × Unit))) (k : Int) (i : Int) (r0 : (List (List dKey))) : round E_w_markKeySS (lookL ll_w_markKeySS) lm_L_w_markKeySS_1 19 (loopAt Tryz.f75 0) rec' ((k, i, ()), (r0, ())) = L_w_markKeySS_1 rec' ((k, i, ()), (r0, ())) := by kernel_rfl
theorem lo_w_markKeySS : Loops E_w_markKeySS (lookL ll_w_markKeySS) Tryz.f75 := Loops.list (by kernel_rfl) (by kernel_rfl) ⟨LoopOK.iter (step := L_w_markKeySS_1) (N := fun _ => fuel) (fun rec' x => by obtain ⟨⟨k, i, ⟨⟩⟩, ⟨r0, ⟨⟩⟩⟩ := x; exact rd_L_w_markKeySS_1 rec' k i r0) fun _ => rfl, trivial⟩
theorem ev_w_markKeySS (a : (List (List dKey))) (k : Int) : evalX E_w_markKeySS (lookL ll_w_markKeySS) Tryz.f75 [.own false (.slice (.slice tKey)), .ro false (.int .i64)] (.one false (.int .i64)) (a, k, ()) = g_w_markKeySS a k := by kernel_rfl
def m_w_markKeySS : FX := { ps := [.own false (.slice (.slice tKey)), .ro false (.int .i64)], res := .one false (.int .i64), run := fun x => g_w_markKeySS x.1 x.2.1 }
set_option maxRecDepth 4000 in
theorem ok_w_markKeySS : FxOK Tryz.prog 75 m_w_markKeySS := @FxOK.made Tryz.prog E_w_markKeySS ek_w_markKeySS 75 Tryz.f75 (lookL ll_w_markKeySS) m_w_markKeySS Tryz.func75 (by kernel_rfl) lo_w_markKeySS fun ds out _ hr => by obtain ⟨a, k, ⟨⟩⟩ := ds; exact (ev_w_markKeySS a k).trans hr

def E_w_markRootKeyS : Tabs := (mkE tab [] [])
set_option maxRecDepth 4000 in
theorem ek_w_markRootKeyS : EnvOK Tryz.prog E_w_markRootKeyS := (mkE_ok tab_ok mixed AllF.nil AllX.nil)
def lm_L_w_markRootKeyS_1 : LM := { mat := [], head := { slots := [(0, .cst (.sl (.row 0))), (1, .dat false (.int .i64)), (5, .dat false (.int .i64))], blks := [.row true tRootKey] }, out := { slots := [(1, .dat false (.int .i64))], blks := [.row true tRootKey] }, ex := 0, rets := false, run := iter L_w_markRootKeyS_1 fuel }
def ll_w_markRootKeyS : List (Nat × LP) := [(2, .lm lm_L_w_markRootKeyS_1)]
theorem rd_L_w_markRootKeyS_1 (rec' : (Int × Int × Unit) × ((List dRootKey) × Unit) → Option ((Int × Unit) × ((List dRootKey) × Unit))) (k : Int) (i : Int) (r0 : (List dRootKey)) : round E_w_markRootKeyS (lookL ll_w_markRootKeyS) lm_L_w_markRootKeyS_1 47 (loopAt Tryz.f76 0) rec' ((k, i, ()), (r0, ())) = L_w_markRootKeyS_1 rec' ((k, i, ()), (r0, ())) := by kernel_rfl
theorem lo_w_markRootKeyS : Loops E_w_markRootKeyS (lookL ll_w_markRootKeyS) Tryz.f76 := Loops.list (by kernel_rfl) (by kernel_rfl) ⟨LoopOK.iter (step := L_w_markRootKeyS_1) (N := fun _ => fuel) (fun rec' x => by obtain ⟨⟨k, i, ⟨⟩⟩, ⟨r0, ⟨⟩⟩⟩ := x; exact rd_L_w_markRootKeyS_1 rec' k i r0) fun _ => rfl, trivial⟩
theorem ev_w_markRootKeyS (a : (List dRootKey)) (k : Int) : evalX E_w_markRootKeyS (lookL ll_w_markRootKeyS) Tryz.f76 [.own false (.slice tRootKey), .ro false (.int .i64)] (.one false (.int .i64)) (a, k, ()) = g_w_markRootKeyS a k := by kernel_rfl
def m_w_markRootKeyS : FX := { ps := [.own false (.slice tRootKey), .ro false (.int .i64)], res := .one false (.int .i64), run := fun x => g_w_markRootKeyS x.1 x.2.1 }
set_option maxRecDepth 4000 in
theorem ok_w_markRootKeyS : FxOK Tryz.prog 76 m_w_markRootKeyS := @FxOK.made Tryz.prog E_w_markRootKeyS ek_w_markRootKeyS 76 Tryz.f76 (lookL ll_w_markRootKeyS) m_w_markRootKeyS Tryz.func76 (by kernel_rfl) lo_w_markRootKeyS fun ds out _ hr => by obtain ⟨a, k, ⟨⟩⟩ := ds; exact (ev_w_markRootKeyS a k).trans hr

def E_w_markClipS : Tabs := (mkE tab [] [(75, m_w_markKeySS), (76, m_w_markRootKeyS)])
set_option maxRecDepth 4000 in
theorem ek_w_markClipS : EnvOK Tryz.prog E_w_markClipS := (mkE_ok tab_ok mixed AllF.nil (AllX.cons ok_w_markKeySS (AllX.cons ok_w_markRootKeyS AllX.nil)))
def lm_L_w_markClipS_1 : LM := { mat := [], head := { slots := [(0, .cst (.sl (.row 0))), (1, .dat false (.int .i64)), (5, .dat false (.int .i64))], blks := [.row true tClip] }, out := { slots := [(1, .dat false (.int .i64))], blks := [.row true tClip] }, ex := 0, rets := false, run := iter L_w_markClipS_1 fuel }
def ll_w_markClipS : List (Nat × LP) := [(2, .lm lm_L_w_markClipS_1)]
theorem rd_L_w_markClipS_1 (rec' : (Int × Int × Unit) × ((List dClip) × Unit) → Option ((Int × Unit) × ((List dClip) × Unit))) (k : Int) (i : Int) (r0 : (List dClip)) : round E_w_markClipS (lookL ll_w_markClipS) lm_L_w_markClipS_1 41 (loopAt Tryz.f23 0) rec' ((k, i, ()), (r0, ())) = L_w_markClipS_1 rec' ((k, i, ()), (r0, ())) := by kernel_rfl
theorem lo_w_markClipS : Loops E_w_markClipS (lookL ll_w_markClipS) Tryz.f23 := Loops.list (by kernel_rfl) (by kernel_rfl) ⟨LoopOK.iter (step := L_w_markClipS_1) (N := fun _ => fuel) (fun rec' x => by obtain ⟨⟨k, i, ⟨⟩⟩, ⟨r0, ⟨⟩⟩⟩ := x; exact rd_L_w_markClipS_1 rec' k i r0) fun _ => rfl, trivial⟩
theorem ev_w_markClipS (a : (List dClip)) (k : Int) : evalX E_w_markClipS (lookL ll_w_markClipS) Tryz.f23 [.own false (.slice tClip), .ro false (.int .i64)] (.one false (.int .i64)) (a, k, ()) = g_w_markClipS a k := by kernel_rfl
def m_w_markClipS : FX := { ps := [.own false (.slice tClip), .ro false (.int .i64)], res := .one false (.int .i64), run := fun x => g_w_markClipS x.1 x.2.1 }
set_option maxRecDepth 4000 in
theorem ok_w_markClipS : FxOK Tryz.prog 23 m_w_markClipS := @FxOK.made Tryz.prog E_w_markClipS ek_w_markClipS 23 Tryz.f23 (lookL ll_w_markClipS) m_w_markClipS Tryz.func23 (by kernel_rfl) lo_w_markClipS fun ds out _ hr => by obtain ⟨a, k, ⟨⟩⟩ := ds; exact (ev_w_markClipS a k).trans hr

def E_w_markStateS : Tabs := (mkE tab [] [])
set_option maxRecDepth 4000 in
theorem ek_w_markStateS : EnvOK Tryz.prog E_w_markStateS := (mkE_ok tab_ok mixed AllF.nil AllX.nil)
def lm_L_w_markStateS_1 : LM := { mat := [], head := { slots := [(0, .cst (.sl (.row 0))), (1, .dat false (.int .i64)), (5, .dat false (.int .i64))], blks := [.row true tState] }, out := { slots := [(1, .dat false (.int .i64))], blks := [.row true tState] }, ex := 0, rets := false, run := iter L_w_markStateS_1 fuel }
def ll_w_markStateS : List (Nat × LP) := [(2, .lm lm_L_w_markStateS_1)]
theorem rd_L_w_markStateS_1 (rec' : (Int × Int × Unit) × ((List dState) × Unit) → Option ((Int × Unit) × ((List dState) × Unit))) (k : Int) (i : Int) (r0 : (List dState)) : round E_w_markStateS (lookL ll_w_markStateS) lm_L_w_markStateS_1 36 (loopAt Tryz.f81 0) rec' ((k, i, ()), (r0, ())) = L_w_markStateS_1 rec' ((k, i, ()), (r0, ())) := by kernel_rfl
theorem lo_w_markStateS : Loops E_w_markStateS (lookL ll_w_markStateS) Tryz.f81 := Loops.list (by kernel_rfl) (by kernel_rfl) ⟨LoopOK.iter (step := L_w_markStateS_1) (N := fun _ => fuel) (fun rec' x => by obtain ⟨⟨k, i, ⟨⟩⟩, ⟨r0, ⟨⟩⟩⟩ := x; exact rd_L_w_markStateS_1 rec' k i r0) fun _ => rfl, trivial⟩
theorem ev_w_markStateS (a : (List dState)) (k : Int) : evalX E_w_markStateS (lookL ll_w_markStateS) Tryz.f81 [.own false (.slice tState), .ro false (.int .i64)] (.one false (.int .i64)) (a, k, ()) = g_w_markStateS a k := by kernel_rfl
def m_w_markStateS : FX := { ps := [.own false (.slice tState), .ro false (.int .i64)], res := .one false (.int .i64), run := fun x => g_w_markStateS x.1 x.2.1 }
set_option maxRecDepth 4000 in
theorem ok_w_markStateS : FxOK Tryz.prog 81 m_w_markStateS := @FxOK.made Tryz.prog E_w_markStateS ek_w_markStateS 81 Tryz.f81 (lookL ll_w_markStateS) m_w_markStateS Tryz.func81 (by kernel_rfl) lo_w_markStateS fun ds out _ hr => by obtain ⟨a, k, ⟨⟩⟩ := ds; exact (ev_w_markStateS a k).trans hr

def E_w_markRuleS : Tabs := (mkE tab [] [])
set_option maxRecDepth 4000 in
theorem ek_w_markRuleS : EnvOK Tryz.prog E_w_markRuleS := (mkE_ok tab_ok mixed AllF.nil AllX.nil)
def lm_L_w_markRuleS_1 : LM := { mat := [], head := { slots := [(0, .cst (.sl (.row 0))), (1, .dat false (.int .i64)), (5, .dat false (.int .i64))], blks := [.row true tRule] }, out := { slots := [(1, .dat false (.int .i64))], blks := [.row true tRule] }, ex := 0, rets := false, run := iter L_w_markRuleS_1 fuel }
def ll_w_markRuleS : List (Nat × LP) := [(2, .lm lm_L_w_markRuleS_1)]
theorem rd_L_w_markRuleS_1 (rec' : (Int × Int × Unit) × ((List dRule) × Unit) → Option ((Int × Unit) × ((List dRule) × Unit))) (k : Int) (i : Int) (r0 : (List dRule)) : round E_w_markRuleS (lookL ll_w_markRuleS) lm_L_w_markRuleS_1 56 (loopAt Tryz.f82 0) rec' ((k, i, ()), (r0, ())) = L_w_markRuleS_1 rec' ((k, i, ()), (r0, ())) := by kernel_rfl
theorem lo_w_markRuleS : Loops E_w_markRuleS (lookL ll_w_markRuleS) Tryz.f82 := Loops.list (by kernel_rfl) (by kernel_rfl) ⟨LoopOK.iter (step := L_w_markRuleS_1) (N := fun _ => fuel) (fun rec' x => by obtain ⟨⟨k, i, ⟨⟩⟩, ⟨r0, ⟨⟩⟩⟩ := x; exact rd_L_w_markRuleS_1 rec' k i r0) fun _ => rfl, trivial⟩
theorem ev_w_markRuleS (a : (List dRule)) (k : Int) : evalX E_w_markRuleS (lookL ll_w_markRuleS) Tryz.f82 [.own false (.slice tRule), .ro false (.int .i64)] (.one false (.int .i64)) (a, k, ()) = g_w_markRuleS a k := by kernel_rfl
def m_w_markRuleS : FX := { ps := [.own false (.slice tRule), .ro false (.int .i64)], res := .one false (.int .i64), run := fun x => g_w_markRuleS x.1 x.2.1 }
set_option maxRecDepth 4000 in
theorem ok_w_markRuleS : FxOK Tryz.prog 82 m_w_markRuleS := @FxOK.made Tryz.prog E_w_markRuleS ek_w_markRuleS 82 Tryz.f82 (lookL ll_w_markRuleS) m_w_markRuleS Tryz.func82 (by kernel_rfl) lo_w_markRuleS fun ds out _ hr => by obtain ⟨a, k, ⟨⟩⟩ := ds; exact (ev_w_markRuleS a k).trans hr

def E_w_markMachine : Tabs := (mkE tab [] [(23, m_w_markClipS), (81, m_w_markStateS), (82, m_w_markRuleS)])
set_option maxRecDepth 4000 in
theorem ek_w_markMachine : EnvOK Tryz.prog E_w_markMachine := (mkE_ok tab_ok mixed AllF.nil (AllX.cons ok_w_markClipS (AllX.cons ok_w_markStateS (AllX.cons ok_w_markRuleS AllX.nil))))
theorem ev_w_markMachine (a : dMachine) (k : Int) : evalX E_w_markMachine noL Tryz.f29 [.own true tMachine, .ro false (.int .i64)] (.one false (.int .i64)) (a, k, ()) = g_w_markMachine a k := by kernel_rfl
def m_w_markMachine : FX := { ps := [.own true tMachine, .ro false (.int .i64)], res := .one false (.int .i64), run := fun x => g_w_markMachine x.1 x.2.1 }
set_option maxRecDepth 4000 in
theorem ok_w_markMachine : FxOK Tryz.prog 29 m_w_markMachine := @FxOK.made Tryz.prog E_w_markMachine ek_w_markMachine 29 Tryz.f29 noL m_w_markMachine Tryz.func29 (by kernel_rfl) (Loops.none (by kernel_rfl)) fun ds out _ hr => by obtain ⟨a, k, ⟨⟩⟩ := ds; exact (ev_w_markMachine a k).trans hr

def E_w_markInt64S : Tabs := (mkE tab [] [])
set_option maxRecDepth 4000 in
theorem ek_w_markInt64S : EnvOK Tryz.prog E_w_markInt64S := (mkE_ok tab_ok mixed AllF.nil AllX.nil)
def lm_L_w_markInt64S_1 : LM := { mat := [], head := { slots := [(0, .cst (.sl (.row 0))), (1, .dat false (.int .i64)), (5, .dat false (.int .i64))], blks := [.row true (.int .i64)] }, out := { slots := [(1, .dat false (.int .i64))], blks := [.row true (.int .i64)] }, ex := 0, rets := false, run := iter L_w_markInt64S_1 fuel }
def ll_w_markInt64S : List (Nat × LP) := [(2, .lm lm_L_w_markInt64S_1)]
theorem rd_L_w_markInt64S_1 (rec' : (Int × Int × Unit) × ((List Int) × Unit) → Option ((Int × Unit) × ((List Int) × Unit))) (k : Int) (i : Int) (r0 : (List Int)) : round E_w_markInt64S (lookL ll_w_markInt64S) lm_L_w_markInt64S_1 19 (loopAt Tryz.f33 0) rec' ((k, i, ()), (r0, ())) = L_w_markInt64S_1 rec' ((k, i, ()), (r0, ())) := by kernel_rfl
theorem lo_w_markInt64S : Loops E_w_markInt64S (lookL ll_w_markInt64S) Tryz.f33 := Loops.list (by kernel_rfl) (by kernel_rfl) ⟨LoopOK.iter (step := L_w_markInt64S_1) (N := fun _ => fuel) (fun rec' x => by obtain ⟨⟨k, i, ⟨⟩⟩, ⟨r0, ⟨⟩⟩⟩ := x; exact rd_L_w_markInt64S_1 rec' k i r0) fun _ => rfl, trivial⟩
theorem ev_w_markInt64S (a : (List Int)) (k : Int) : evalX E_w_markInt64S (lookL ll_w_markInt64S) Tryz.f33 [.own false (.slice (.int .i64)), .ro false (.int .i64)] (.one false (.int .i64)) (a, k, ()) = g_w_markInt64S a k := by kernel_rfl
def m_w_markInt64S : FX := { ps := [.own false (.slice (.int .i64)), .ro false (.int .i64)], res := .one false (.int .i64), run := fun x => g_w_markInt64S x.1 x.2.1 }
set_option maxRecDepth 4000 in
theorem ok_w_markInt64S : FxOK Tryz.prog 33 m_w_markInt64S := @FxOK.made Tryz.prog E_w_markInt64S ek_w_markInt64S 33 Tryz.f33 (lookL ll_w_markInt64S) m_w_markInt64S Tryz.func33 (by kernel_rfl) lo_w_markInt64S fun ds out _ hr => by obtain ⟨a, k, ⟨⟩⟩ := ds; exact (ev_w_markInt64S a k).trans hr

def E_w_heldInt64S : Tabs := (mkE tab [] [])
set_option maxRecDepth 4000 in
theorem ek_w_heldInt64S : EnvOK Tryz.prog E_w_heldInt64S := (mkE_ok tab_ok mixed AllF.nil AllX.nil)
def lm_L_w_heldInt64S_1 : LM := { mat := [], head := { slots := [(0, .dat false (.slice (.int .i64))), (1, .dat false (.int .i64)), (4, .dat false (.int .i64)), (5, .dat false (.int .i64))], blks := [] }, out := { slots := [(1, .dat false (.int .i64)), (4, .dat false (.int .i64))], blks := [] }, ex := 0, rets := true, run := iter L_w_heldInt64S_1 fuel }
def ll_w_heldInt64S : List (Nat × LP) := [(2, .lm lm_L_w_heldInt64S_1)]
theorem rd_L_w_heldInt64S_1 (rec' : ((List Int) × Int × Int × Int × Unit) × (Unit) → Option (Bool × ((Int × Int × Unit) × (Unit)))) (a : (List Int)) (k : Int) (t4 : Int) (i : Int) : round E_w_heldInt64S (lookL ll_w_heldInt64S) lm_L_w_heldInt64S_1 21 (loopAt Tryz.f34 0) rec' ((a, k, t4, i, ()), (())) = L_w_heldInt64S_1 rec' ((a, k, t4, i, ()), (())) := by kernel_rfl
theorem lo_w_heldInt64S : Loops E_w_heldInt64S (lookL ll_w_heldInt64S) Tryz.f34 := Loops.list (by kernel_rfl) (by kernel_rfl) ⟨LoopOK.iter (step := L_w_heldInt64S_1) (N := fun _ => fuel) (fun rec' x => by obtain ⟨⟨a, k, t4, i, ⟨⟩⟩, ⟨⟨⟩⟩⟩ := x; exact rd_L_w_heldInt64S_1 rec' a k t4 i) fun _ => rfl, trivial⟩
theorem ev_w_heldInt64S (a : (List Int)) (k : Int) : evalF E_w_heldInt64S (lookL ll_w_heldInt64S) Tryz.f34 [.ro false (.slice (.int .i64)), .ro false (.int .i64)] (.one false (.int .i64)) (a, k, ()) = g_w_heldInt64S a k := by kernel_rfl
def m_w_heldInt64S : FM := { ps := [.ro false (.slice (.int .i64)), .ro false (.int .i64)], res := .one false (.int .i64), run := fun x => g_w_heldInt64S x.1 x.2.1 }
set_option maxRecDepth 4000 in
theorem ok_w_heldInt64S : FmOK Tryz.prog 34 m_w_heldInt64S := @FmOK.made Tryz.prog E_w_heldInt64S ek_w_heldInt64S 34 Tryz.f34 (lookL ll_w_heldInt64S) m_w_heldInt64S Tryz.func34 (by kernel_rfl) lo_w_heldInt64S fun ds out _ hr => by obtain ⟨a, k, ⟨⟩⟩ := ds; exact (ev_w_heldInt64S a k).trans hr

def E_w_FnExactReachedStates : Tabs := (mkE tab [(8, m_w_szMachine), (10, m_w_toMachine), (30, m_s_ReachedStates), (31, m_i_ReachedStates), (32, m_w_eqInt64S), (15, m_w_eqMachine), (34, m_w_heldInt64S)] [(29, m_w_markMachine), (33, m_w_markInt64S)])
set_option maxRecDepth 4000 in
theorem ek_w_FnExactReachedStates : EnvOK Tryz.prog E_w_FnExactReachedStates := (mkE_ok tab_ok mixed (AllF.cons ok_w_szMachine (AllF.cons ok_w_toMachine (AllF.cons ok_s_ReachedStates (AllF.cons ok_i_ReachedStates (AllF.cons ok_w_eqInt64S (AllF.cons ok_w_eqMachine (AllF.cons ok_w_heldInt64S AllF.nil))))))) (AllX.cons ok_w_markMachine (AllX.cons ok_w_markInt64S AllX.nil)))
theorem ev_w_FnExactReachedStates (aM : dMachine) (aState : Int) : evalF E_w_FnExactReachedStates noL Tryz.f6 [.ro true tMachine, .ro false (.int .i64)] (.one false .bool) (aM, aState, ()) = g_w_FnExactReachedStates aM aState := by kernel_rfl
end
end Go.Fw.Z
