/- The functions of the translation compute what the plain functions compute. No condition. -/
import Derived.Test.YtobcfldhacdpiaaGreatZPure
import Derived.Test.YtobcfldhacdpiaaGreatProg
import Derived.KernelRfl
set_option linter.unusedVariables false
namespace Go.Fw.Z
open Go.Fw Go.Proofs Go.RowKit
noncomputable section
def tab : List (Nat × TI) := [
  (2, { und := .int .i64, size := 1, bytes := 8, zero := [.int .i64 0], ty := (.int .i64) }),
  (3, { und := .int .i64, size := 1, bytes := 8, zero := [.int .i64 0], ty := (.int .i64) }),
  (4, { und := .bool, size := 1, bytes := 1, zero := [.bool false], ty := .bool }),
  (22, { und := .slice 100, size := 1, bytes := 24, zero := [.sl .nil], ty := (.slice tClip) }),
  (29, { und := .slice 46, size := 1, bytes := 24, zero := [.sl .nil], ty := (.slice (.flt .f32)) }),
  (34, { und := .slice 108, size := 1, bytes := 24, zero := [.sl .nil], ty := (.slice tClip) }),
  (46, { und := .flt .f32, size := 1, bytes := 4, zero := [.flt .f32 0], ty := (.flt .f32) }),
  (49, { und := .struct [(0, 46), (1, 46), (2, 46)], size := 3, bytes := 12, zero := [.flt .f32 0, .flt .f32 0, .flt .f32 0], ty := tVec }),
  (50, { und := .slice 114, size := 1, bytes := 24, zero := [.sl .nil], ty := (.slice tTurn) }),
  (52, { und := .struct [(0, 49), (3, 50)], size := 4, bytes := 40, zero := [.flt .f32 0, .flt .f32 0, .flt .f32 0, .sl .nil], ty := tPose }),
  (65, { und := .slice 2, size := 1, bytes := 24, zero := [.sl .nil], ty := (.slice (.int .i64)) }),
  (73, { und := .slice 52, size := 1, bytes := 24, zero := [.sl .nil], ty := (.slice tPose) }),
  (95, { und := .flt .f64, size := 1, bytes := 8, zero := [.flt .f64 0], ty := (.flt .f64) }),
  (97, { und := .slice 203, size := 1, bytes := 24, zero := [.sl .nil], ty := (.slice (.slice tKey)) }),
  (98, { und := .slice 214, size := 1, bytes := 24, zero := [.sl .nil], ty := (.slice tRootKey) }),
  (100, { und := .struct [(0, 2), (1, 2), (2, 97), (3, 98)], size := 4, bytes := 64, zero := [.int .i64 0, .int .i64 0, .sl .nil, .sl .nil], ty := tClip }),
  (104, { und := .other, size := 1, bytes := 8, zero := [.pnil], ty := .unit }),
  (105, { und := .slice 157, size := 1, bytes := 24, zero := [.sl .nil], ty := (.slice (.slice tKey)) }),
  (106, { und := .slice 184, size := 1, bytes := 24, zero := [.sl .nil], ty := (.slice tRootKey) }),
  (108, { und := .struct [(0, 2), (1, 2), (2, 105), (3, 106)], size := 4, bytes := 64, zero := [.int .i64 0, .int .i64 0, .sl .nil, .sl .nil], ty := tClip }),
  (114, { und := .struct [(0, 46), (1, 46), (2, 46), (3, 46)], size := 4, bytes := 16, zero := [.flt .f32 0, .flt .f32 0, .flt .f32 0, .flt .f32 0], ty := tTurn }),
  (157, { und := .slice 170, size := 1, bytes := 24, zero := [.sl .nil], ty := (.slice tKey) }),
  (167, { und := .other, size := 1, bytes := 8, zero := [.undef], ty := .unit }),
  (170, { und := .struct [(0, 2), (1, 114)], size := 5, bytes := 24, zero := [.int .i64 0, .flt .f32 0, .flt .f32 0, .flt .f32 0, .flt .f32 0], ty := tKey }),
  (171, { und := .other, size := 1, bytes := 8, zero := [.undef], ty := .unit }),
  (172, { und := .other, size := 1, bytes := 8, zero := [.undef], ty := .unit }),
  (173, { und := .other, size := 1, bytes := 8, zero := [.undef], ty := .unit }),
  (175, { und := .struct [(0, 171), (1, 172), (2, 173)], size := 3, bytes := 24, zero := [.undef, .undef, .undef], ty := .unit }),
  (184, { und := .struct [(0, 2), (1, 49)], size := 4, bytes := 24, zero := [.int .i64 0, .flt .f32 0, .flt .f32 0, .flt .f32 0], ty := tRootKey }),
  (203, { und := .slice 249, size := 1, bytes := 24, zero := [.sl .nil], ty := (.slice tKey) }),
  (212, { und := .struct [(0, 46), (1, 46), (2, 46)], size := 3, bytes := 12, zero := [.flt .f32 0, .flt .f32 0, .flt .f32 0], ty := tVec }),
  (214, { und := .struct [(0, 2), (1, 212)], size := 4, bytes := 24, zero := [.int .i64 0, .flt .f32 0, .flt .f32 0, .flt .f32 0], ty := tRootKey }),
  (217, { und := .other, size := 1, bytes := 8, zero := [.undef], ty := .unit }),
  (218, { und := .other, size := 1, bytes := 8, zero := [.undef], ty := .unit }),
  (219, { und := .other, size := 1, bytes := 8, zero := [.undef], ty := .unit }),
  (221, { und := .struct [(0, 217), (1, 218), (2, 219)], size := 3, bytes := 24, zero := [.undef, .undef, .undef], ty := .unit }),
  (247, { und := .struct [(0, 46), (1, 46), (2, 46), (3, 46)], size := 4, bytes := 16, zero := [.flt .f32 0, .flt .f32 0, .flt .f32 0, .flt .f32 0], ty := tTurn }),
  (249, { und := .struct [(0, 2), (1, 247)], size := 5, bytes := 24, zero := [.int .i64 0, .flt .f32 0, .flt .f32 0, .flt .f32 0, .flt .f32 0], ty := tKey })]
theorem tab_ok : TabOK Tryz.prog (lookT tab) := tabB_spec (by kernel_rfl)
theorem mixed : Tryz.prog.follows .mixedOrders = true := by kernel_rfl
def E_w_szKeyS : Tabs := (mkE tab [] [])
set_option maxRecDepth 4000 in
theorem ek_w_szKeyS : EnvOK Tryz.prog E_w_szKeyS := (mkE_ok tab_ok mixed AllF.nil AllX.nil)
theorem ev_w_szKeyS (a : (List dKey)) (left : Int) : evalF E_w_szKeyS noL Tryz.f143 [.ro false (.slice tKey), .ro false (.int .i64)] (.one false (.int .i64)) (a, left, ()) = g_w_szKeyS a left := by kernel_rfl
def m_w_szKeyS : FM := { ps := [.ro false (.slice tKey), .ro false (.int .i64)], res := .one false (.int .i64), run := fun x => some (t_w_szKeyS x.1 x.2.1) }
set_option maxRecDepth 4000 in
theorem ok_w_szKeyS : FmOK Tryz.prog 143 m_w_szKeyS := @FmOK.made Tryz.prog E_w_szKeyS ek_w_szKeyS 143 Tryz.f143 noL m_w_szKeyS Tryz.func143 (by kernel_rfl) (Loops.none (by kernel_rfl)) fun ds out _ hr => by obtain ⟨a, left, ⟨⟩⟩ := ds; exact (ev_w_szKeyS a left).trans ((q_w_szKeyS a left).trans hr)

def E_w_szKeySS : Tabs := (mkE tab [(143, m_w_szKeyS)] [])
set_option maxRecDepth 4000 in
theorem ek_w_szKeySS : EnvOK Tryz.prog E_w_szKeySS := (mkE_ok tab_ok mixed (AllF.cons ok_w_szKeyS AllF.nil) AllX.nil)
def lm_L_w_szKeySS_1 : LM := { mat := [], head := { slots := [(0, .dat false (.slice (.slice tKey))), (1, .dat false (.int .i64)), (4, .dat false (.int .i64)), (5, .dat false (.int .i64))], blks := [] }, out := { slots := [(1, .dat false (.int .i64)), (4, .dat false (.int .i64))], blks := [] }, ex := 0, rets := true, run := iter L_w_szKeySS_1 fuel }
def ll_w_szKeySS : List (Nat × LP) := [(5, .lm lm_L_w_szKeySS_1)]
theorem rd_L_w_szKeySS_1 (rec' : ((List (List dKey)) × Int × Int × Int × Unit) × (Unit) → Option (Bool × ((Int × Int × Unit) × (Unit)))) (a : (List (List dKey))) (left : Int) (t4 : Int) (i : Int) : round E_w_szKeySS (lookL ll_w_szKeySS) lm_L_w_szKeySS_1 27 (loopAt Tryz.f101 0) rec' ((a, left, t4, i, ()), (())) = L_w_szKeySS_1 rec' ((a, left, t4, i, ()), (())) := by kernel_rfl
theorem lo_w_szKeySS : Loops E_w_szKeySS (lookL ll_w_szKeySS) Tryz.f101 := Loops.list (by kernel_rfl) (by kernel_rfl) ⟨LoopOK.iter (step := L_w_szKeySS_1) (N := fun _ => fuel) (fun rec' x => by obtain ⟨⟨a, left, t4, i, ⟨⟩⟩, ⟨⟨⟩⟩⟩ := x; exact rd_L_w_szKeySS_1 rec' a left t4 i) fun _ => rfl, trivial⟩
theorem ev_w_szKeySS (a : (List (List dKey))) (left : Int) : evalF E_w_szKeySS (lookL ll_w_szKeySS) Tryz.f101 [.ro false (.slice (.slice tKey)), .ro false (.int .i64)] (.one false (.int .i64)) (a, left, ()) = g_w_szKeySS a left := by kernel_rfl
def m_w_szKeySS : FM := { ps := [.ro false (.slice (.slice tKey)), .ro false (.int .i64)], res := .one false (.int .i64), run := fun x => g_w_szKeySS x.1 x.2.1 }
set_option maxRecDepth 4000 in
theorem ok_w_szKeySS : FmOK Tryz.prog 101 m_w_szKeySS := @FmOK.made Tryz.prog E_w_szKeySS ek_w_szKeySS 101 Tryz.f101 (lookL ll_w_szKeySS) m_w_szKeySS Tryz.func101 (by kernel_rfl) lo_w_szKeySS fun ds out _ hr => by obtain ⟨a, left, ⟨⟩⟩ := ds; exact (ev_w_szKeySS a left).trans hr

def E_w_szRootKeyS : Tabs := (mkE tab [] [])
set_option maxRecDepth 4000 in
theorem ek_w_szRootKeyS : EnvOK Tryz.prog E_w_szRootKeyS := (mkE_ok tab_ok mixed AllF.nil AllX.nil)
theorem ev_w_szRootKeyS (a : (List dRootKey)) (left : Int) : evalF E_w_szRootKeyS noL Tryz.f102 [.ro false (.slice tRootKey), .ro false (.int .i64)] (.one false (.int .i64)) (a, left, ()) = g_w_szRootKeyS a left := by kernel_rfl
def m_w_szRootKeyS : FM := { ps := [.ro false (.slice tRootKey), .ro false (.int .i64)], res := .one false (.int .i64), run := fun x => some (t_w_szRootKeyS x.1 x.2.1) }
set_option maxRecDepth 4000 in
theorem ok_w_szRootKeyS : FmOK Tryz.prog 102 m_w_szRootKeyS := @FmOK.made Tryz.prog E_w_szRootKeyS ek_w_szRootKeyS 102 Tryz.f102 noL m_w_szRootKeyS Tryz.func102 (by kernel_rfl) (Loops.none (by kernel_rfl)) fun ds out _ hr => by obtain ⟨a, left, ⟨⟩⟩ := ds; exact (ev_w_szRootKeyS a left).trans ((q_w_szRootKeyS a left).trans hr)

def E_w_szClip : Tabs := (mkE tab [(101, m_w_szKeySS), (102, m_w_szRootKeyS)] [])
set_option maxRecDepth 4000 in
theorem ek_w_szClip : EnvOK Tryz.prog E_w_szClip := (mkE_ok tab_ok mixed (AllF.cons ok_w_szKeySS (AllF.cons ok_w_szRootKeyS AllF.nil)) AllX.nil)
theorem ev_w_szClip (a : dClip) (left : Int) : evalF E_w_szClip noL Tryz.f56 [.ro true tClip, .ro false (.int .i64)] (.one false (.int .i64)) (a, left, ()) = g_w_szClip a left := by kernel_rfl
def m_w_szClip : FM := { ps := [.ro true tClip, .ro false (.int .i64)], res := .one false (.int .i64), run := fun x => g_w_szClip x.1 x.2.1 }
set_option maxRecDepth 4000 in
theorem ok_w_szClip : FmOK Tryz.prog 56 m_w_szClip := @FmOK.made Tryz.prog E_w_szClip ek_w_szClip 56 Tryz.f56 noL m_w_szClip Tryz.func56 (by kernel_rfl) (Loops.none (by kernel_rfl)) fun ds out _ hr => by obtain ⟨a, left, ⟨⟩⟩ := ds; exact (ev_w_szClip a left).trans hr

def E_w_szClipS : Tabs := (mkE tab [(56, m_w_szClip)] [])
set_option maxRecDepth 4000 in
theorem ek_w_szClipS : EnvOK Tryz.prog E_w_szClipS := (mkE_ok tab_ok mixed (AllF.cons ok_w_szClip AllF.nil) AllX.nil)
def lm_L_w_szClipS_1 : LM := { mat := [], head := { slots := [(0, .dat false (.slice tClip)), (1, .dat false (.int .i64)), (4, .dat false (.int .i64)), (5, .dat false (.int .i64))], blks := [] }, out := { slots := [(1, .dat false (.int .i64)), (4, .dat false (.int .i64))], blks := [] }, ex := 0, rets := true, run := iter L_w_szClipS_1 fuel }
def ll_w_szClipS : List (Nat × LP) := [(5, .lm lm_L_w_szClipS_1)]
theorem rd_L_w_szClipS_1 (rec' : ((List dClip) × Int × Int × Int × Unit) × (Unit) → Option (Bool × ((Int × Int × Unit) × (Unit)))) (a : (List dClip)) (left : Int) (t4 : Int) (i : Int) : round E_w_szClipS (lookL ll_w_szClipS) lm_L_w_szClipS_1 27 (loopAt Tryz.f17 0) rec' ((a, left, t4, i, ()), (())) = L_w_szClipS_1 rec' ((a, left, t4, i, ()), (())) := by kernel_rfl
theorem lo_w_szClipS : Loops E_w_szClipS (lookL ll_w_szClipS) Tryz.f17 := Loops.list (by kernel_rfl) (by kernel_rfl) ⟨LoopOK.iter (step := L_w_szClipS_1) (N := fun _ => fuel) (fun rec' x => by obtain ⟨⟨a, left, t4, i, ⟨⟩⟩, ⟨⟨⟩⟩⟩ := x; exact rd_L_w_szClipS_1 rec' a left t4 i) fun _ => rfl, trivial⟩
theorem ev_w_szClipS (a : (List dClip)) (left : Int) : evalF E_w_szClipS (lookL ll_w_szClipS) Tryz.f17 [.ro false (.slice tClip), .ro false (.int .i64)] (.one false (.int .i64)) (a, left, ()) = g_w_szClipS a left := by kernel_rfl
def m_w_szClipS : FM := { ps := [.ro false (.slice tClip), .ro false (.int .i64)], res := .one false (.int .i64), run := fun x => g_w_szClipS x.1 x.2.1 }
set_option maxRecDepth 4000 in
theorem ok_w_szClipS : FmOK Tryz.prog 17 m_w_szClipS := @FmOK.made Tryz.prog E_w_szClipS ek_w_szClipS 17 Tryz.f17 (lookL ll_w_szClipS) m_w_szClipS Tryz.func17 (by kernel_rfl) lo_w_szClipS fun ds out _ hr => by obtain ⟨a, left, ⟨⟩⟩ := ds; exact (ev_w_szClipS a left).trans hr

def E_w_toTurn : Tabs := (mkE tab [] [])
set_option maxRecDepth 4000 in
theorem ek_w_toTurn : EnvOK Tryz.prog E_w_toTurn := (mkE_ok tab_ok mixed AllF.nil AllX.nil)
theorem ev_w_toTurn (a : dTurn) : evalF E_w_toTurn noL Tryz.f204 [.ro true tTurn] (.one true tTurn) (a, ()) = g_w_toTurn a := by kernel_rfl
def m_w_toTurn : FM := { ps := [.ro true tTurn], res := .one true tTurn, run := fun x => some (t_w_toTurn x.1) }
set_option maxRecDepth 4000 in
theorem ok_w_toTurn : FmOK Tryz.prog 204 m_w_toTurn := @FmOK.made Tryz.prog E_w_toTurn ek_w_toTurn 204 Tryz.f204 noL m_w_toTurn Tryz.func204 (by kernel_rfl) (Loops.none (by kernel_rfl)) fun ds out _ hr => by obtain ⟨a, ⟨⟩⟩ := ds; exact (ev_w_toTurn a).trans ((q_w_toTurn a).trans hr)

def E_w_toKey : Tabs := (mkE tab [(204, m_w_toTurn)] [])
set_option maxRecDepth 4000 in
theorem ek_w_toKey : EnvOK Tryz.prog E_w_toKey := (mkE_ok tab_ok mixed (AllF.cons ok_w_toTurn AllF.nil) AllX.nil)
theorem ev_w_toKey (a : dKey) : evalF E_w_toKey noL Tryz.f185 [.ro true tKey] (.one true tKey) (a, ()) = g_w_toKey a := by kernel_rfl
def m_w_toKey : FM := { ps := [.ro true tKey], res := .one true tKey, run := fun x => some (t_w_toKey x.1) }
set_option maxRecDepth 4000 in
theorem ok_w_toKey : FmOK Tryz.prog 185 m_w_toKey := @FmOK.made Tryz.prog E_w_toKey ek_w_toKey 185 Tryz.f185 noL m_w_toKey Tryz.func185 (by kernel_rfl) (Loops.none (by kernel_rfl)) fun ds out _ hr => by obtain ⟨a, ⟨⟩⟩ := ds; exact (ev_w_toKey a).trans ((q_w_toKey a).trans hr)

def E_w_toKeyS : Tabs := (mkE tab [(185, m_w_toKey)] [])
set_option maxRecDepth 4000 in
theorem ek_w_toKeyS : EnvOK Tryz.prog E_w_toKeyS := (mkE_ok tab_ok mixed (AllF.cons ok_w_toKey AllF.nil) AllX.nil)
def lm_L_w_toKeyS_1 : LM := { mat := [], head := { slots := [(0, .dat false (.slice tKey)), (3, .cst (.sl (.row 0))), (4, .dat false (.int .i64))], blks := [.row false tKey] }, out := { slots := [(3, .cst (.sl (.row 0)))], blks := [.row false tKey] }, ex := 0, rets := false, run := iter L_w_toKeyS_1 fuel }
def ll_w_toKeyS : List (Nat × LP) := [(3, .lm lm_L_w_toKeyS_1)]
theorem rd_L_w_toKeyS_1 (rec' : ((List dKey) × Int × Unit) × ((List dKey) × Unit) → Option ((Unit) × ((List dKey) × Unit))) (a : (List dKey)) (i : Int) (r0 : (List dKey)) : round E_w_toKeyS (lookL ll_w_toKeyS) lm_L_w_toKeyS_1 23 (loopAt Tryz.f150 0) rec' ((a, i, ()), (r0, ())) = L_w_toKeyS_1 rec' ((a, i, ()), (r0, ())) := by kernel_rfl
theorem lo_w_toKeyS : Loops E_w_toKeyS (lookL ll_w_toKeyS) Tryz.f150 := Loops.list (by kernel_rfl) (by kernel_rfl) ⟨LoopOK.iter (step := L_w_toKeyS_1) (N := fun _ => fuel) (fun rec' x => by obtain ⟨⟨a, i, ⟨⟩⟩, ⟨r0, ⟨⟩⟩⟩ := x; exact rd_L_w_toKeyS_1 rec' a i r0) fun _ => rfl, trivial⟩
theorem ev_w_toKeyS (a : (List dKey)) : evalF E_w_toKeyS (lookL ll_w_toKeyS) Tryz.f150 [.ro false (.slice tKey)] (.one false (.slice tKey)) (a, ()) = g_w_toKeyS a := by kernel_rfl
def m_w_toKeyS : FM := { ps := [.ro false (.slice tKey)], res := .one false (.slice tKey), run := fun x => g_w_toKeyS x.1 }
set_option maxRecDepth 4000 in
theorem ok_w_toKeyS : FmOK Tryz.prog 150 m_w_toKeyS := @FmOK.made Tryz.prog E_w_toKeyS ek_w_toKeyS 150 Tryz.f150 (lookL ll_w_toKeyS) m_w_toKeyS Tryz.func150 (by kernel_rfl) lo_w_toKeyS fun ds out _ hr => by obtain ⟨a, ⟨⟩⟩ := ds; exact (ev_w_toKeyS a).trans hr

def E_w_toKeySS : Tabs := (mkE tab [(150, m_w_toKeyS)] [])
set_option maxRecDepth 4000 in
theorem ek_w_toKeySS : EnvOK Tryz.prog E_w_toKeySS := (mkE_ok tab_ok mixed (AllF.cons ok_w_toKeyS AllF.nil) AllX.nil)
def lm_L_w_toKeySS_1 : LM := { mat := [], head := { slots := [(0, .dat false (.slice (.slice tKey))), (3, .cst (.sl (.row 0))), (4, .dat false (.int .i64))], blks := [.row false (.slice tKey)] }, out := { slots := [(3, .cst (.sl (.row 0)))], blks := [.row false (.slice tKey)] }, ex := 0, rets := false, run := iter L_w_toKeySS_1 fuel }
def ll_w_toKeySS : List (Nat × LP) := [(3, .lm lm_L_w_toKeySS_1)]
theorem rd_L_w_toKeySS_1 (rec' : ((List (List dKey)) × Int × Unit) × ((List (List dKey)) × Unit) → Option ((Unit) × ((List (List dKey)) × Unit))) (a : (List (List dKey))) (i : Int) (r0 : (List (List dKey))) : round E_w_toKeySS (lookL ll_w_toKeySS) lm_L_w_toKeySS_1 23 (loopAt Tryz.f112 0) rec' ((a, i, ()), (r0, ())) = L_w_toKeySS_1 rec' ((a, i, ()), (r0, ())) := by kernel_rfl
theorem lo_w_toKeySS : Loops E_w_toKeySS (lookL ll_w_toKeySS) Tryz.f112 := Loops.list (by kernel_rfl) (by kernel_rfl) ⟨LoopOK.iter (step := L_w_toKeySS_1) (N := fun _ => fuel) (fun rec' x => by obtain ⟨⟨a, i, ⟨⟩⟩, ⟨r0, ⟨⟩⟩⟩ := x; exact rd_L_w_toKeySS_1 rec' a i r0) fun _ => rfl, trivial⟩
theorem ev_w_toKeySS (a : (List (List dKey))) : evalF E_w_toKeySS (lookL ll_w_toKeySS) Tryz.f112 [.ro false (.slice (.slice tKey))] (.one false (.slice (.slice tKey))) (a, ()) = g_w_toKeySS a := by kernel_rfl
def m_w_toKeySS : FM := { ps := [.ro false (.slice (.slice tKey))], res := .one false (.slice (.slice tKey)), run := fun x => g_w_toKeySS x.1 }
set_option maxRecDepth 4000 in
theorem ok_w_toKeySS : FmOK Tryz.prog 112 m_w_toKeySS := @FmOK.made Tryz.prog E_w_toKeySS ek_w_toKeySS 112 Tryz.f112 (lookL ll_w_toKeySS) m_w_toKeySS Tryz.func112 (by kernel_rfl) lo_w_toKeySS fun ds out _ hr => by obtain ⟨a, ⟨⟩⟩ := ds; exact (ev_w_toKeySS a).trans hr

def E_w_toVector : Tabs := (mkE tab [] [])
set_option maxRecDepth 4000 in
theorem ek_w_toVector : EnvOK Tryz.prog E_w_toVector := (mkE_ok tab_ok mixed AllF.nil AllX.nil)
theorem ev_w_toVector (a : dVec) : evalF E_w_toVector noL Tryz.f186 [.ro true tVec] (.one true tVec) (a, ()) = g_w_toVector a := by kernel_rfl
def m_w_toVector : FM := { ps := [.ro true tVec], res := .one true tVec, run := fun x => some (t_w_toVector x.1) }
set_option maxRecDepth 4000 in
theorem ok_w_toVector : FmOK Tryz.prog 186 m_w_toVector := @FmOK.made Tryz.prog E_w_toVector ek_w_toVector 186 Tryz.f186 noL m_w_toVector Tryz.func186 (by kernel_rfl) (Loops.none (by kernel_rfl)) fun ds out _ hr => by obtain ⟨a, ⟨⟩⟩ := ds; exact (ev_w_toVector a).trans ((q_w_toVector a).trans hr)

def E_w_toRootKey : Tabs := (mkE tab [(186, m_w_toVector)] [])
set_option maxRecDepth 4000 in
theorem ek_w_toRootKey : EnvOK Tryz.prog E_w_toRootKey := (mkE_ok tab_ok mixed (AllF.cons ok_w_toVector AllF.nil) AllX.nil)
theorem ev_w_toRootKey (a : dRootKey) : evalF E_w_toRootKey noL Tryz.f151 [.ro true tRootKey] (.one true tRootKey) (a, ()) = g_w_toRootKey a := by kernel_rfl
def m_w_toRootKey : FM := { ps := [.ro true tRootKey], res := .one true tRootKey, run := fun x => some (t_w_toRootKey x.1) }
set_option maxRecDepth 4000 in
theorem ok_w_toRootKey : FmOK Tryz.prog 151 m_w_toRootKey := @FmOK.made Tryz.prog E_w_toRootKey ek_w_toRootKey 151 Tryz.f151 noL m_w_toRootKey Tryz.func151 (by kernel_rfl) (Loops.none (by kernel_rfl)) fun ds out _ hr => by obtain ⟨a, ⟨⟩⟩ := ds; exact (ev_w_toRootKey a).trans ((q_w_toRootKey a).trans hr)

def E_w_toRootKeyS : Tabs := (mkE tab [(151, m_w_toRootKey)] [])
set_option maxRecDepth 4000 in
theorem ek_w_toRootKeyS : EnvOK Tryz.prog E_w_toRootKeyS := (mkE_ok tab_ok mixed (AllF.cons ok_w_toRootKey AllF.nil) AllX.nil)
def lm_L_w_toRootKeyS_1 : LM := { mat := [], head := { slots := [(0, .dat false (.slice tRootKey)), (3, .cst (.sl (.row 0))), (4, .dat false (.int .i64))], blks := [.row false tRootKey] }, out := { slots := [(3, .cst (.sl (.row 0)))], blks := [.row false tRootKey] }, ex := 0, rets := false, run := iter L_w_toRootKeyS_1 fuel }
def ll_w_toRootKeyS : List (Nat × LP) := [(3, .lm lm_L_w_toRootKeyS_1)]
theorem rd_L_w_toRootKeyS_1 (rec' : ((List dRootKey) × Int × Unit) × ((List dRootKey) × Unit) → Option ((Unit) × ((List dRootKey) × Unit))) (a : (List dRootKey)) (i : Int) (r0 : (List dRootKey)) : round E_w_toRootKeyS (lookL ll_w_toRootKeyS) lm_L_w_toRootKeyS_1 23 (loopAt Tryz.f113 0) rec' ((a, i, ()), (r0, ())) = L_w_toRootKeyS_1 rec' ((a, i, ()), (r0, ())) := by kernel_rfl
theorem lo_w_toRootKeyS : Loops E_w_toRootKeyS (lookL ll_w_toRootKeyS) Tryz.f113 := Loops.list (by kernel_rfl) (by kernel_rfl) ⟨LoopOK.iter (step := L_w_toRootKeyS_1) (N := fun _ => fuel) (fun rec' x => by obtain ⟨⟨a, i, ⟨⟩⟩, ⟨r0, ⟨⟩⟩⟩ := x; exact rd_L_w_toRootKeyS_1 rec' a i r0) fun _ => rfl, trivial⟩
theorem ev_w_toRootKeyS (a : (List dRootKey)) : evalF E_w_toRootKeyS (lookL ll_w_toRootKeyS) Tryz.f113 [.ro false (.slice tRootKey)] (.one false (.slice tRootKey)) (a, ()) = g_w_toRootKeyS a := by kernel_rfl
def m_w_toRootKeyS : FM := { ps := [.ro false (.slice tRootKey)], res := .one false (.slice tRootKey), run := fun x => g_w_toRootKeyS x.1 }
set_option maxRecDepth 4000 in
theorem ok_w_toRootKeyS : FmOK Tryz.prog 113 m_w_toRootKeyS := @FmOK.made Tryz.prog E_w_toRootKeyS ek_w_toRootKeyS 113 Tryz.f113 (lookL ll_w_toRootKeyS) m_w_toRootKeyS Tryz.func113 (by kernel_rfl) lo_w_toRootKeyS fun ds out _ hr => by obtain ⟨a, ⟨⟩⟩ := ds; exact (ev_w_toRootKeyS a).trans hr

def E_w_toClip : Tabs := (mkE tab [(112, m_w_toKeySS), (113, m_w_toRootKeyS)] [])
set_option maxRecDepth 4000 in
theorem ek_w_toClip : EnvOK Tryz.prog E_w_toClip := (mkE_ok tab_ok mixed (AllF.cons ok_w_toKeySS (AllF.cons ok_w_toRootKeyS AllF.nil)) AllX.nil)
theorem ev_w_toClip (a : dClip) : evalF E_w_toClip noL Tryz.f65 [.ro true tClip] (.one true tClip) (a, ()) = g_w_toClip a := by kernel_rfl
def m_w_toClip : FM := { ps := [.ro true tClip], res := .one true tClip, run := fun x => g_w_toClip x.1 }
set_option maxRecDepth 4000 in
theorem ok_w_toClip : FmOK Tryz.prog 65 m_w_toClip := @FmOK.made Tryz.prog E_w_toClip ek_w_toClip 65 Tryz.f65 noL m_w_toClip Tryz.func65 (by kernel_rfl) (Loops.none (by kernel_rfl)) fun ds out _ hr => by obtain ⟨a, ⟨⟩⟩ := ds; exact (ev_w_toClip a).trans hr

def E_w_toClipS : Tabs := (mkE tab [(65, m_w_toClip)] [])
set_option maxRecDepth 4000 in
theorem ek_w_toClipS : EnvOK Tryz.prog E_w_toClipS := (mkE_ok tab_ok mixed (AllF.cons ok_w_toClip AllF.nil) AllX.nil)
def lm_L_w_toClipS_1 : LM := { mat := [], head := { slots := [(0, .dat false (.slice tClip)), (3, .cst (.sl (.row 0))), (4, .dat false (.int .i64))], blks := [.row false tClip] }, out := { slots := [(3, .cst (.sl (.row 0)))], blks := [.row false tClip] }, ex := 0, rets := false, run := iter L_w_toClipS_1 fuel }
def ll_w_toClipS : List (Nat × LP) := [(3, .lm lm_L_w_toClipS_1)]
theorem rd_L_w_toClipS_1 (rec' : ((List dClip) × Int × Unit) × ((List dClip) × Unit) → Option ((Unit) × ((List dClip) × Unit))) (a : (List dClip)) (i : Int) (r0 : (List dClip)) : round E_w_toClipS (lookL ll_w_toClipS) lm_L_w_toClipS_1 23 (loopAt Tryz.f19 0) rec' ((a, i, ()), (r0, ())) = L_w_toClipS_1 rec' ((a, i, ()), (r0, ())) := by kernel_rfl
theorem lo_w_toClipS : Loops E_w_toClipS (lookL ll_w_toClipS) Tryz.f19 := Loops.list (by kernel_rfl) (by kernel_rfl) ⟨LoopOK.iter (step := L_w_toClipS_1) (N := fun _ => fuel) (fun rec' x => by obtain ⟨⟨a, i, ⟨⟩⟩, ⟨r0, ⟨⟩⟩⟩ := x; exact rd_L_w_toClipS_1 rec' a i r0) fun _ => rfl, trivial⟩
theorem ev_w_toClipS (a : (List dClip)) : evalF E_w_toClipS (lookL ll_w_toClipS) Tryz.f19 [.ro false (.slice tClip)] (.one false (.slice tClip)) (a, ()) = g_w_toClipS a := by kernel_rfl
def m_w_toClipS : FM := { ps := [.ro false (.slice tClip)], res := .one false (.slice tClip), run := fun x => g_w_toClipS x.1 }
set_option maxRecDepth 4000 in
theorem ok_w_toClipS : FmOK Tryz.prog 19 m_w_toClipS := @FmOK.made Tryz.prog E_w_toClipS ek_w_toClipS 19 Tryz.f19 (lookL ll_w_toClipS) m_w_toClipS Tryz.func19 (by kernel_rfl) lo_w_toClipS fun ds out _ hr => by obtain ⟨a, ⟨⟩⟩ := ds; exact (ev_w_toClipS a).trans hr

def E_w_toFloat32S : Tabs := (mkE tab [] [])
set_option maxRecDepth 4000 in
theorem ek_w_toFloat32S : EnvOK Tryz.prog E_w_toFloat32S := (mkE_ok tab_ok mixed AllF.nil AllX.nil)
def lm_L_w_toFloat32S_1 : LM := { mat := [], head := { slots := [(0, .dat false (.slice (.flt .f32))), (3, .cst (.sl (.row 0))), (4, .dat false (.int .i64))], blks := [.row false (.flt .f32)] }, out := { slots := [(3, .cst (.sl (.row 0)))], blks := [.row false (.flt .f32)] }, ex := 0, rets := false, run := iter L_w_toFloat32S_1 fuel }
def ll_w_toFloat32S : List (Nat × LP) := [(3, .lm lm_L_w_toFloat32S_1)]
theorem rd_L_w_toFloat32S_1 (rec' : ((List Nat) × Int × Unit) × ((List Nat) × Unit) → Option ((Unit) × ((List Nat) × Unit))) (a : (List Nat)) (i : Int) (r0 : (List Nat)) : round E_w_toFloat32S (lookL ll_w_toFloat32S) lm_L_w_toFloat32S_1 22 (loopAt Tryz.f12 0) rec' ((a, i, ()), (r0, ())) = L_w_toFloat32S_1 rec' ((a, i, ()), (r0, ())) := by kernel_rfl
theorem lo_w_toFloat32S : Loops E_w_toFloat32S (lookL ll_w_toFloat32S) Tryz.f12 := Loops.list (by kernel_rfl) (by kernel_rfl) ⟨LoopOK.iter (step := L_w_toFloat32S_1) (N := fun _ => fuel) (fun rec' x => by obtain ⟨⟨a, i, ⟨⟩⟩, ⟨r0, ⟨⟩⟩⟩ := x; exact rd_L_w_toFloat32S_1 rec' a i r0) fun _ => rfl, trivial⟩
theorem ev_w_toFloat32S (a : (List Nat)) : evalF E_w_toFloat32S (lookL ll_w_toFloat32S) Tryz.f12 [.ro false (.slice (.flt .f32))] (.one false (.slice (.flt .f32))) (a, ()) = g_w_toFloat32S a := by kernel_rfl
def m_w_toFloat32S : FM := { ps := [.ro false (.slice (.flt .f32))], res := .one false (.slice (.flt .f32)), run := fun x => g_w_toFloat32S x.1 }
set_option maxRecDepth 4000 in
theorem ok_w_toFloat32S : FmOK Tryz.prog 12 m_w_toFloat32S := @FmOK.made Tryz.prog E_w_toFloat32S ek_w_toFloat32S 12 Tryz.f12 (lookL ll_w_toFloat32S) m_w_toFloat32S Tryz.func12 (by kernel_rfl) lo_w_toFloat32S fun ds out _ hr => by obtain ⟨a, ⟨⟩⟩ := ds; exact (ev_w_toFloat32S a).trans hr

def E_s_l01Finite : Tabs := (mkE tab [] [])
set_option maxRecDepth 4000 in
theorem ek_s_l01Finite : EnvOK Tryz.prog E_s_l01Finite := (mkE_ok tab_ok mixed AllF.nil AllX.nil)
theorem ev_s_l01Finite (xx : Nat) : evalF E_s_l01Finite noL Tryz.f103 [.ro false (.flt .f32)] (.one false .bool) (xx, ()) = g_s_l01Finite xx := by kernel_rfl
def m_s_l01Finite : FM := { ps := [.ro false (.flt .f32)], res := .one false .bool, run := fun x => some (t_s_l01Finite x.1) }
set_option maxRecDepth 4000 in
theorem ok_s_l01Finite : FmOK Tryz.prog 103 m_s_l01Finite := @FmOK.made Tryz.prog E_s_l01Finite ek_s_l01Finite 103 Tryz.f103 noL m_s_l01Finite Tryz.func103 (by kernel_rfl) (Loops.none (by kernel_rfl)) fun ds out _ hr => by obtain ⟨xx, ⟨⟩⟩ := ds; exact (ev_s_l01Finite xx).trans ((q_s_l01Finite xx).trans hr)

def E_s_l07Scale : Tabs := (mkE tab [(103, m_s_l01Finite)] [])
set_option maxRecDepth 4000 in
theorem ek_s_l07Scale : EnvOK Tryz.prog E_s_l07Scale := (mkE_ok tab_ok mixed (AllF.cons ok_s_l01Finite AllF.nil) AllX.nil)
def lm_L_s_l07Scale_1 : LM := { mat := [], head := { slots := [(0, .dat false (.slice (.flt .f32))), (2, .dat false .bool), (5, .dat false (.int .i64)), (6, .dat false (.int .i64))], blks := [] }, out := { slots := [(0, .dat false (.slice (.flt .f32))), (2, .dat false .bool)], blks := [] }, ex := 0, rets := true, run := iter L_s_l07Scale_1 fuel }
def ll_s_l07Scale : List (Nat × LP) := [(2, .lm lm_L_s_l07Scale_1)]
theorem rd_L_s_l07Scale_1 (rec' : ((List Nat) × Bool × Int × Int × Unit) × (Unit) → Option (Bool × (((List Nat) × Bool × Unit) × (Unit)))) (points : (List Nat)) (t2 : Bool) (t5 : Int) (t6 : Int) : round E_s_l07Scale (lookL ll_s_l07Scale) lm_L_s_l07Scale_1 40 (loopAt Tryz.f57 0) rec' ((points, t2, t5, t6, ()), (())) = L_s_l07Scale_1 rec' ((points, t2, t5, t6, ()), (())) := by kernel_rfl
theorem lo_s_l07Scale : Loops E_s_l07Scale (lookL ll_s_l07Scale) Tryz.f57 := Loops.list (by kernel_rfl) (by kernel_rfl) ⟨LoopOK.iter (step := L_s_l07Scale_1) (N := fun _ => fuel) (fun rec' x => by obtain ⟨⟨points, t2, t5, t6, ⟨⟩⟩, ⟨⟨⟩⟩⟩ := x; exact rd_L_s_l07Scale_1 rec' points t2 t5 t6) fun _ => rfl, trivial⟩
theorem ev_s_l07Scale (points : (List Nat)) : evalF E_s_l07Scale (lookL ll_s_l07Scale) Tryz.f57 [.ro false (.slice (.flt .f32))] (.one false .bool) (points, ()) = g_s_l07Scale points := by kernel_rfl
def m_s_l07Scale : FM := { ps := [.ro false (.slice (.flt .f32))], res := .one false .bool, run := fun x => g_s_l07Scale x.1 }
set_option maxRecDepth 4000 in
theorem ok_s_l07Scale : FmOK Tryz.prog 57 m_s_l07Scale := @FmOK.made Tryz.prog E_s_l07Scale ek_s_l07Scale 57 Tryz.f57 (lookL ll_s_l07Scale) m_s_l07Scale Tryz.func57 (by kernel_rfl) lo_s_l07Scale fun ds out _ hr => by obtain ⟨points, ⟨⟩⟩ := ds; exact (ev_s_l07Scale points).trans hr

def E_s_l00In : Tabs := (mkE tab [] [])
set_option maxRecDepth 4000 in
theorem ek_s_l00In : EnvOK Tryz.prog E_s_l00In := (mkE_ok tab_ok mixed AllF.nil AllX.nil)
theorem ev_s_l00In (n : Int) (low : Int) (high : Int) : evalF E_s_l00In noL Tryz.f58 [.ro false (.int .i64), .ro false (.int .i64), .ro false (.int .i64)] (.one false .bool) (n, low, high, ()) = g_s_l00In n low high := by kernel_rfl
def m_s_l00In : FM := { ps := [.ro false (.int .i64), .ro false (.int .i64), .ro false (.int .i64)], res := .one false .bool, run := fun x => some (t_s_l00In x.1 x.2.1 x.2.2.1) }
set_option maxRecDepth 4000 in
theorem ok_s_l00In : FmOK Tryz.prog 58 m_s_l00In := @FmOK.made Tryz.prog E_s_l00In ek_s_l00In 58 Tryz.f58 noL m_s_l00In Tryz.func58 (by kernel_rfl) (Loops.none (by kernel_rfl)) fun ds out _ hr => by obtain ⟨n, low, high, ⟨⟩⟩ := ds; exact (ev_s_l00In n low high).trans ((q_s_l00In n low high).trans hr)

def E_s_l05At : Tabs := (mkE tab [] [])
set_option maxRecDepth 4000 in
theorem ek_s_l05At : EnvOK Tryz.prog E_s_l05At := (mkE_ok tab_ok mixed AllF.nil AllX.nil)
def lm_L_s_l05At_1 : LM := { mat := [], head := { slots := [(0, .dat false (.slice tKey)), (3, .cst (.sl (.row 0))), (7, .dat false (.int .i64)), (8, .dat false (.int .i64))], blks := [.row false (.int .i64)] }, out := { slots := [(3, .cst (.sl (.row 0)))], blks := [.row false (.int .i64)] }, ex := 0, rets := false, run := iter L_s_l05At_1 fuel }
def ll_s_l05At : List (Nat × LP) := [(3, .lm lm_L_s_l05At_1)]
theorem rd_L_s_l05At_1 (rec' : ((List dKey) × Int × Int × Unit) × ((List Int) × Unit) → Option ((Unit) × ((List Int) × Unit))) (track : (List dKey)) (t7 : Int) (t8 : Int) (r0 : (List Int)) : round E_s_l05At (lookL ll_s_l05At) lm_L_s_l05At_1 21 (loopAt Tryz.f105 0) rec' ((track, t7, t8, ()), (r0, ())) = L_s_l05At_1 rec' ((track, t7, t8, ()), (r0, ())) := by kernel_rfl
theorem lo_s_l05At : Loops E_s_l05At (lookL ll_s_l05At) Tryz.f105 := Loops.list (by kernel_rfl) (by kernel_rfl) ⟨LoopOK.iter (step := L_s_l05At_1) (N := fun _ => fuel) (fun rec' x => by obtain ⟨⟨track, t7, t8, ⟨⟩⟩, ⟨r0, ⟨⟩⟩⟩ := x; exact rd_L_s_l05At_1 rec' track t7 t8 r0) fun _ => rfl, trivial⟩
theorem ev_s_l05At (track : (List dKey)) : evalF E_s_l05At (lookL ll_s_l05At) Tryz.f105 [.ro false (.slice tKey)] (.one false (.slice (.int .i64))) (track, ()) = g_s_l05At track := by kernel_rfl
def m_s_l05At : FM := { ps := [.ro false (.slice tKey)], res := .one false (.slice (.int .i64)), run := fun x => g_s_l05At x.1 }
set_option maxRecDepth 4000 in
theorem ok_s_l05At : FmOK Tryz.prog 105 m_s_l05At := @FmOK.made Tryz.prog E_s_l05At ek_s_l05At 105 Tryz.f105 (lookL ll_s_l05At) m_s_l05At Tryz.func105 (by kernel_rfl) lo_s_l05At fun ds out _ hr => by obtain ⟨track, ⟨⟩⟩ := ds; exact (ev_s_l05At track).trans hr

def E_s_l05Times : Tabs := (mkE tab [(58, m_s_l00In)] [])
set_option maxRecDepth 4000 in
theorem ek_s_l05Times : EnvOK Tryz.prog E_s_l05Times := (mkE_ok tab_ok mixed (AllF.cons ok_s_l00In AllF.nil) AllX.nil)
def lm_L_s_l05Times_1 : LM := { mat := [], head := { slots := [(0, .dat false (.slice (.int .i64))), (1, .dat false (.int .i64)), (4, .dat false .bool), (7, .dat false (.int .i64)), (8, .dat false (.int .i64))], blks := [] }, out := { slots := [(0, .dat false (.slice (.int .i64))), (4, .dat false .bool)], blks := [] }, ex := 0, rets := true, run := iter L_s_l05Times_1 fuel }
def ll_s_l05Times : List (Nat × LP) := [(2, .lm lm_L_s_l05Times_1)]
theorem rd_L_s_l05Times_1 (rec' : ((List Int) × Int × Bool × Int × Int × Unit) × (Unit) → Option (Bool × (((List Int) × Bool × Unit) × (Unit)))) (list : (List Int)) (length : Int) (t4 : Bool) (t7 : Int) (t8 : Int) : round E_s_l05Times (lookL ll_s_l05Times) lm_L_s_l05Times_1 43 (loopAt Tryz.f104 0) rec' ((list, length, t4, t7, t8, ()), (())) = L_s_l05Times_1 rec' ((list, length, t4, t7, t8, ()), (())) := by kernel_rfl
theorem lo_s_l05Times : Loops E_s_l05Times (lookL ll_s_l05Times) Tryz.f104 := Loops.list (by kernel_rfl) (by kernel_rfl) ⟨LoopOK.iter (step := L_s_l05Times_1) (N := fun _ => fuel) (fun rec' x => by obtain ⟨⟨list, length, t4, t7, t8, ⟨⟩⟩, ⟨⟨⟩⟩⟩ := x; exact rd_L_s_l05Times_1 rec' list length t4 t7 t8) fun _ => rfl, trivial⟩
theorem ev_s_l05Times (list : (List Int)) (length : Int) : evalF E_s_l05Times (lookL ll_s_l05Times) Tryz.f104 [.ro false (.slice (.int .i64)), .ro false (.int .i64)] (.one false .bool) (list, length, ()) = g_s_l05Times list length := by kernel_rfl
def m_s_l05Times : FM := { ps := [.ro false (.slice (.int .i64)), .ro false (.int .i64)], res := .one false .bool, run := fun x => g_s_l05Times x.1 x.2.1 }
set_option maxRecDepth 4000 in
theorem ok_s_l05Times : FmOK Tryz.prog 104 m_s_l05Times := @FmOK.made Tryz.prog E_s_l05Times ek_s_l05Times 104 Tryz.f104 (lookL ll_s_l05Times) m_s_l05Times Tryz.func104 (by kernel_rfl) lo_s_l05Times fun ds out _ hr => by obtain ⟨list, length, ⟨⟩⟩ := ds; exact (ev_s_l05Times list length).trans hr

def E_s_l05RootAt : Tabs := (mkE tab [] [])
set_option maxRecDepth 4000 in
theorem ek_s_l05RootAt : EnvOK Tryz.prog E_s_l05RootAt := (mkE_ok tab_ok mixed AllF.nil AllX.nil)
def lm_L_s_l05RootAt_1 : LM := { mat := [], head := { slots := [(0, .dat false (.slice tRootKey)), (3, .cst (.sl (.row 0))), (7, .dat false (.int .i64)), (8, .dat false (.int .i64))], blks := [.row false (.int .i64)] }, out := { slots := [(3, .cst (.sl (.row 0)))], blks := [.row false (.int .i64)] }, ex := 0, rets := false, run := iter L_s_l05RootAt_1 fuel }
def ll_s_l05RootAt : List (Nat × LP) := [(3, .lm lm_L_s_l05RootAt_1)]
theorem rd_L_s_l05RootAt_1 (rec' : ((List dRootKey) × Int × Int × Unit) × ((List Int) × Unit) → Option ((Unit) × ((List Int) × Unit))) (roots : (List dRootKey)) (t7 : Int) (t8 : Int) (r0 : (List Int)) : round E_s_l05RootAt (lookL ll_s_l05RootAt) lm_L_s_l05RootAt_1 21 (loopAt Tryz.f106 0) rec' ((roots, t7, t8, ()), (r0, ())) = L_s_l05RootAt_1 rec' ((roots, t7, t8, ()), (r0, ())) := by kernel_rfl
theorem lo_s_l05RootAt : Loops E_s_l05RootAt (lookL ll_s_l05RootAt) Tryz.f106 := Loops.list (by kernel_rfl) (by kernel_rfl) ⟨LoopOK.iter (step := L_s_l05RootAt_1) (N := fun _ => fuel) (fun rec' x => by obtain ⟨⟨roots, t7, t8, ⟨⟩⟩, ⟨r0, ⟨⟩⟩⟩ := x; exact rd_L_s_l05RootAt_1 rec' roots t7 t8 r0) fun _ => rfl, trivial⟩
theorem ev_s_l05RootAt (roots : (List dRootKey)) : evalF E_s_l05RootAt (lookL ll_s_l05RootAt) Tryz.f106 [.ro false (.slice tRootKey)] (.one false (.slice (.int .i64))) (roots, ()) = g_s_l05RootAt roots := by kernel_rfl
def m_s_l05RootAt : FM := { ps := [.ro false (.slice tRootKey)], res := .one false (.slice (.int .i64)), run := fun x => g_s_l05RootAt x.1 }
set_option maxRecDepth 4000 in
theorem ok_s_l05RootAt : FmOK Tryz.prog 106 m_s_l05RootAt := @FmOK.made Tryz.prog E_s_l05RootAt ek_s_l05RootAt 106 Tryz.f106 (lookL ll_s_l05RootAt) m_s_l05RootAt Tryz.func106 (by kernel_rfl) lo_s_l05RootAt fun ds out _ hr => by obtain ⟨roots, ⟨⟩⟩ := ds; exact (ev_s_l05RootAt roots).trans hr

def E_s_l05Is : Tabs := (mkE tab [(58, m_s_l00In), (105, m_s_l05At), (104, m_s_l05Times), (106, m_s_l05RootAt)] [])
set_option maxRecDepth 4000 in
theorem ek_s_l05Is : EnvOK Tryz.prog E_s_l05Is := (mkE_ok tab_ok mixed (AllF.cons ok_s_l00In (AllF.cons ok_s_l05At (AllF.cons ok_s_l05Times (AllF.cons ok_s_l05RootAt AllF.nil)))) AllX.nil)
def lm_L_s_l05Is_1 : LM := { mat := [], head := { slots := [(0, .dat false (.ref tClip)), (2, .dat false .bool), (38, .dat false (.int .i64)), (39, .dat false (.int .i64))], blks := [] }, out := { slots := [(0, .dat false (.ref tClip)), (2, .dat false .bool)], blks := [] }, ex := 0, rets := true, run := iter L_s_l05Is_1 fuel }
def ll_s_l05Is : List (Nat × LP) := [(4, .lm lm_L_s_l05Is_1)]
theorem rd_L_s_l05Is_1 (rec' : (dClip × Bool × Int × Int × Unit) × (Unit) → Option (Bool × ((dClip × Bool × Unit) × (Unit)))) (c : dClip) (t2 : Bool) (t38 : Int) (t39 : Int) : round E_s_l05Is (lookL ll_s_l05Is) lm_L_s_l05Is_1 67 (loopAt Tryz.f59 0) rec' ((c, t2, t38, t39, ()), (())) = L_s_l05Is_1 rec' ((c, t2, t38, t39, ()), (())) := by kernel_rfl
theorem lo_s_l05Is : Loops E_s_l05Is (lookL ll_s_l05Is) Tryz.f59 := Loops.list (by kernel_rfl) (by kernel_rfl) ⟨LoopOK.iter (step := L_s_l05Is_1) (N := fun _ => fuel) (fun rec' x => by obtain ⟨⟨c, t2, t38, t39, ⟨⟩⟩, ⟨⟨⟩⟩⟩ := x; exact rd_L_s_l05Is_1 rec' c t2 t38 t39) fun _ => rfl, trivial⟩
theorem ev_s_l05Is (c : dClip) : evalF E_s_l05Is (lookL ll_s_l05Is) Tryz.f59 [.rptr tClip] (.one false .bool) (c, ()) = g_s_l05Is c := by kernel_rfl
def m_s_l05Is : FM := { ps := [.rptr tClip], res := .one false .bool, run := fun x => g_s_l05Is x.1 }
set_option maxRecDepth 4000 in
theorem ok_s_l05Is : FmOK Tryz.prog 59 m_s_l05Is := @FmOK.made Tryz.prog E_s_l05Is ek_s_l05Is 59 Tryz.f59 (lookL ll_s_l05Is) m_s_l05Is Tryz.func59 (by kernel_rfl) lo_s_l05Is fun ds out _ hr => by obtain ⟨c, ⟨⟩⟩ := ds; exact (ev_s_l05Is c).trans hr

def E_s_l07Weights : Tabs := (mkE tab [] [])
set_option maxRecDepth 4000 in
theorem ek_s_l07Weights : EnvOK Tryz.prog E_s_l07Weights := (mkE_ok tab_ok mixed AllF.nil AllX.nil)
def lm_L_s_l07Weights_1 : LM := { mat := [], head := { slots := [(0, .dat false (.slice (.flt .f32))), (1, .dat false (.flt .f32)), (6, .cst (.sl (.row 0))), (7, .dat false (.int .i64))], blks := [.row false (.flt .f32)] }, out := { slots := [(0, .dat false (.slice (.flt .f32))), (1, .dat false (.flt .f32)), (6, .cst (.sl (.row 0))), (7, .dat false (.int .i64))], blks := [.row false (.flt .f32)] }, ex := 0, rets := false, run := iter L_s_l07Weights_1 fuel }
def ll_s_l07Weights : List (Nat × LP) := [(10, .lm lm_L_s_l07Weights_1)]
theorem rd_L_s_l07Weights_1 (rec' : ((List Nat) × Nat × Int × Unit) × ((List Nat) × Unit) → Option (((List Nat) × Nat × Int × Unit) × ((List Nat) × Unit))) (points : (List Nat)) (xx : Nat) (i : Int) (r0 : (List Nat)) : round E_s_l07Weights (lookL ll_s_l07Weights) lm_L_s_l07Weights_1 70 (loopAt Tryz.f60 0) rec' ((points, xx, i, ()), (r0, ())) = L_s_l07Weights_1 rec' ((points, xx, i, ()), (r0, ())) := by kernel_rfl
theorem lo_s_l07Weights : Loops E_s_l07Weights (lookL ll_s_l07Weights) Tryz.f60 := Loops.list (by kernel_rfl) (by kernel_rfl) ⟨LoopOK.iter (step := L_s_l07Weights_1) (N := fun _ => fuel) (fun rec' x => by obtain ⟨⟨points, xx, i, ⟨⟩⟩, ⟨r0, ⟨⟩⟩⟩ := x; exact rd_L_s_l07Weights_1 rec' points xx i r0) fun _ => rfl, trivial⟩
theorem ev_s_l07Weights (points : (List Nat)) (xx : Nat) : evalF E_s_l07Weights (lookL ll_s_l07Weights) Tryz.f60 [.ro false (.slice (.flt .f32)), .ro false (.flt .f32)] (.one false (.slice (.flt .f32))) (points, xx, ()) = g_s_l07Weights points xx := by kernel_rfl
def m_s_l07Weights : FM := { ps := [.ro false (.slice (.flt .f32)), .ro false (.flt .f32)], res := .one false (.slice (.flt .f32)), run := fun x => g_s_l07Weights x.1 x.2.1 }
set_option maxRecDepth 4000 in
theorem ok_s_l07Weights : FmOK Tryz.prog 60 m_s_l07Weights := @FmOK.made Tryz.prog E_s_l07Weights ek_s_l07Weights 60 Tryz.f60 (lookL ll_s_l07Weights) m_s_l07Weights Tryz.func60 (by kernel_rfl) lo_s_l07Weights fun ds out _ hr => by obtain ⟨points, xx, ⟨⟩⟩ := ds; exact (ev_s_l07Weights points xx).trans hr

def E_s_l05Find : Tabs := (mkE tab [] [])
set_option maxRecDepth 4000 in
theorem ek_s_l05Find : EnvOK Tryz.prog E_s_l05Find := (mkE_ok tab_ok mixed AllF.nil AllX.nil)
def lm_L_s_l05Find_1 : LM := { mat := [], head := { slots := [(0, .dat false (.slice (.int .i64))), (1, .dat false (.int .i64)), (2, .dat false (.int .i64)), (8, .dat false (.int .i64))], blks := [] }, out := { slots := [(0, .dat false (.slice (.int .i64))), (1, .dat false (.int .i64)), (2, .dat false (.int .i64)), (8, .dat false (.int .i64))], blks := [] }, ex := 0, rets := false, run := iter L_s_l05Find_1 fuel }
def ll_s_l05Find : List (Nat × LP) := [(2, .lm lm_L_s_l05Find_1)]
theorem rd_L_s_l05Find_1 (rec' : ((List Int) × Int × Int × Int × Unit) × (Unit) → Option (((List Int) × Int × Int × Int × Unit) × (Unit))) (times : (List Int)) (atx : Int) (kind : Int) (i : Int) : round E_s_l05Find (lookL ll_s_l05Find) lm_L_s_l05Find_1 74 (loopAt Tryz.f144 0) rec' ((times, atx, kind, i, ()), (())) = L_s_l05Find_1 rec' ((times, atx, kind, i, ()), (())) := by kernel_rfl
theorem lo_s_l05Find : Loops E_s_l05Find (lookL ll_s_l05Find) Tryz.f144 := Loops.list (by kernel_rfl) (by kernel_rfl) ⟨LoopOK.iter (step := L_s_l05Find_1) (N := fun _ => fuel) (fun rec' x => by obtain ⟨⟨times, atx, kind, i, ⟨⟩⟩, ⟨⟨⟩⟩⟩ := x; exact rd_L_s_l05Find_1 rec' times atx kind i) fun _ => rfl, trivial⟩
theorem ev_s_l05Find (times : (List Int)) (atx : Int) (kind : Int) : evalF E_s_l05Find (lookL ll_s_l05Find) Tryz.f144 [.ro false (.slice (.int .i64)), .ro false (.int .i64), .ro false (.int .i64)] (.tup [(false, (.int .i64)), (false, (.flt .f32))]) (times, atx, kind, ()) = g_s_l05Find times atx kind := by kernel_rfl
def m_s_l05Find : FM := { ps := [.ro false (.slice (.int .i64)), .ro false (.int .i64), .ro false (.int .i64)], res := .tup [(false, (.int .i64)), (false, (.flt .f32))], run := fun x => g_s_l05Find x.1 x.2.1 x.2.2.1 }
set_option maxRecDepth 4000 in
theorem ok_s_l05Find : FmOK Tryz.prog 144 m_s_l05Find := @FmOK.made Tryz.prog E_s_l05Find ek_s_l05Find 144 Tryz.f144 (lookL ll_s_l05Find) m_s_l05Find Tryz.func144 (by kernel_rfl) lo_s_l05Find fun ds out _ hr => by obtain ⟨times, atx, kind, ⟨⟩⟩ := ds; exact (ev_s_l05Find times atx kind).trans hr

def E_s_l05Inside : Tabs := (mkE tab [] [])
set_option maxRecDepth 4000 in
theorem ek_s_l05Inside : EnvOK Tryz.prog E_s_l05Inside := (mkE_ok tab_ok mixed AllF.nil AllX.nil)
theorem ev_s_l05Inside (times : (List Int)) (i : Int) (atx : Int) (kind : Int) : evalF E_s_l05Inside noL Tryz.f145 [.ro false (.slice (.int .i64)), .ro false (.int .i64), .ro false (.int .i64), .ro false (.int .i64)] (.one false .bool) (times, i, atx, kind, ()) = g_s_l05Inside times i atx kind := by kernel_rfl
def m_s_l05Inside : FM := { ps := [.ro false (.slice (.int .i64)), .ro false (.int .i64), .ro false (.int .i64), .ro false (.int .i64)], res := .one false .bool, run := fun x => g_s_l05Inside x.1 x.2.1 x.2.2.1 x.2.2.2.1 }
set_option maxRecDepth 4000 in
theorem ok_s_l05Inside : FmOK Tryz.prog 145 m_s_l05Inside := @FmOK.made Tryz.prog E_s_l05Inside ek_s_l05Inside 145 Tryz.f145 noL m_s_l05Inside Tryz.func145 (by kernel_rfl) (Loops.none (by kernel_rfl)) fun ds out _ hr => by obtain ⟨times, i, atx, kind, ⟨⟩⟩ := ds; exact (ev_s_l05Inside times i atx kind).trans hr

def E_s_l01Less : Tabs := (mkE tab [] [])
set_option maxRecDepth 4000 in
theorem ek_s_l01Less : EnvOK Tryz.prog E_s_l01Less := (mkE_ok tab_ok mixed AllF.nil AllX.nil)
theorem ev_s_l01Less (a : dVec) (b : dVec) : evalF E_s_l01Less noL Tryz.f181 [.ro true tVec, .ro true tVec] (.one true tVec) (a, b, ()) = g_s_l01Less a b := by kernel_rfl
def m_s_l01Less : FM := { ps := [.ro true tVec, .ro true tVec], res := .one true tVec, run := fun x => some (t_s_l01Less x.1 x.2.1) }
set_option maxRecDepth 4000 in
theorem ok_s_l01Less : FmOK Tryz.prog 181 m_s_l01Less := @FmOK.made Tryz.prog E_s_l01Less ek_s_l01Less 181 Tryz.f181 noL m_s_l01Less Tryz.func181 (by kernel_rfl) (Loops.none (by kernel_rfl)) fun ds out _ hr => by obtain ⟨a, b, ⟨⟩⟩ := ds; exact (ev_s_l01Less a b).trans ((q_s_l01Less a b).trans hr)

def E_s_l01Scale : Tabs := (mkE tab [] [])
set_option maxRecDepth 4000 in
theorem ek_s_l01Scale : EnvOK Tryz.prog E_s_l01Scale := (mkE_ok tab_ok mixed AllF.nil AllX.nil)
theorem ev_s_l01Scale (v : dVec) (byx : Nat) : evalF E_s_l01Scale noL Tryz.f63 [.ro true tVec, .ro false (.flt .f32)] (.one true tVec) (v, byx, ()) = g_s_l01Scale v byx := by kernel_rfl
def m_s_l01Scale : FM := { ps := [.ro true tVec, .ro false (.flt .f32)], res := .one true tVec, run := fun x => some (t_s_l01Scale x.1 x.2.1) }
set_option maxRecDepth 4000 in
theorem ok_s_l01Scale : FmOK Tryz.prog 63 m_s_l01Scale := @FmOK.made Tryz.prog E_s_l01Scale ek_s_l01Scale 63 Tryz.f63 noL m_s_l01Scale Tryz.func63 (by kernel_rfl) (Loops.none (by kernel_rfl)) fun ds out _ hr => by obtain ⟨v, byx, ⟨⟩⟩ := ds; exact (ev_s_l01Scale v byx).trans ((q_s_l01Scale v byx).trans hr)

def E_s_l01Add : Tabs := (mkE tab [] [])
set_option maxRecDepth 4000 in
theorem ek_s_l01Add : EnvOK Tryz.prog E_s_l01Add := (mkE_ok tab_ok mixed AllF.nil AllX.nil)
theorem ev_s_l01Add (a : dVec) (b : dVec) : evalF E_s_l01Add noL Tryz.f62 [.ro true tVec, .ro true tVec] (.one true tVec) (a, b, ()) = g_s_l01Add a b := by kernel_rfl
def m_s_l01Add : FM := { ps := [.ro true tVec, .ro true tVec], res := .one true tVec, run := fun x => some (t_s_l01Add x.1 x.2.1) }
set_option maxRecDepth 4000 in
theorem ok_s_l01Add : FmOK Tryz.prog 62 m_s_l01Add := @FmOK.made Tryz.prog E_s_l01Add ek_s_l01Add 62 Tryz.f62 noL m_s_l01Add Tryz.func62 (by kernel_rfl) (Loops.none (by kernel_rfl)) fun ds out _ hr => by obtain ⟨a, b, ⟨⟩⟩ := ds; exact (ev_s_l01Add a b).trans ((q_s_l01Add a b).trans hr)

def E_s_l01Between : Tabs := (mkE tab [(181, m_s_l01Less), (63, m_s_l01Scale), (62, m_s_l01Add)] [])
set_option maxRecDepth 4000 in
theorem ek_s_l01Between : EnvOK Tryz.prog E_s_l01Between := (mkE_ok tab_ok mixed (AllF.cons ok_s_l01Less (AllF.cons ok_s_l01Scale (AllF.cons ok_s_l01Add AllF.nil))) AllX.nil)
theorem ev_s_l01Between (a : dVec) (b : dVec) (share : Nat) : evalF E_s_l01Between noL Tryz.f146 [.ro true tVec, .ro true tVec, .ro false (.flt .f32)] (.one true tVec) (a, b, share, ()) = g_s_l01Between a b share := by kernel_rfl
def m_s_l01Between : FM := { ps := [.ro true tVec, .ro true tVec, .ro false (.flt .f32)], res := .one true tVec, run := fun x => some (t_s_l01Between x.1 x.2.1 x.2.2.1) }
set_option maxRecDepth 4000 in
theorem ok_s_l01Between : FmOK Tryz.prog 146 m_s_l01Between := @FmOK.made Tryz.prog E_s_l01Between ek_s_l01Between 146 Tryz.f146 noL m_s_l01Between Tryz.func146 (by kernel_rfl) (Loops.none (by kernel_rfl)) fun ds out _ hr => by obtain ⟨a, b, share, ⟨⟩⟩ := ds; exact (ev_s_l01Between a b share).trans ((q_s_l01Between a b share).trans hr)

def E_s_l05Root : Tabs := (mkE tab [(106, m_s_l05RootAt), (144, m_s_l05Find), (145, m_s_l05Inside), (146, m_s_l01Between)] [])
set_option maxRecDepth 4000 in
theorem ek_s_l05Root : EnvOK Tryz.prog E_s_l05Root := (mkE_ok tab_ok mixed (AllF.cons ok_s_l05RootAt (AllF.cons ok_s_l05Find (AllF.cons ok_s_l05Inside (AllF.cons ok_s_l01Between AllF.nil)))) AllX.nil)
theorem ev_s_l05Root (roots : (List dRootKey)) (atx : Int) (kind : Int) : evalF E_s_l05Root noL Tryz.f107 [.ro false (.slice tRootKey), .ro false (.int .i64), .ro false (.int .i64)] (.one true tVec) (roots, atx, kind, ()) = g_s_l05Root roots atx kind := by kernel_rfl
def m_s_l05Root : FM := { ps := [.ro false (.slice tRootKey), .ro false (.int .i64), .ro false (.int .i64)], res := .one true tVec, run := fun x => g_s_l05Root x.1 x.2.1 x.2.2.1 }
set_option maxRecDepth 4000 in
theorem ok_s_l05Root : FmOK Tryz.prog 107 m_s_l05Root := @FmOK.made Tryz.prog E_s_l05Root ek_s_l05Root 107 Tryz.f107 noL m_s_l05Root Tryz.func107 (by kernel_rfl) (Loops.none (by kernel_rfl)) fun ds out _ hr => by obtain ⟨roots, atx, kind, ⟨⟩⟩ := ds; exact (ev_s_l05Root roots atx kind).trans hr

def E_s_l02Inner : Tabs := (mkE tab [] [])
set_option maxRecDepth 4000 in
theorem ek_s_l02Inner : EnvOK Tryz.prog E_s_l02Inner := (mkE_ok tab_ok mixed AllF.nil AllX.nil)
theorem ev_s_l02Inner (a : dTurn) (b : dTurn) : evalF E_s_l02Inner noL Tryz.f110 [.ro true tTurn, .ro true tTurn] (.one false (.flt .f32)) (a, b, ()) = g_s_l02Inner a b := by kernel_rfl
def m_s_l02Inner : FM := { ps := [.ro true tTurn, .ro true tTurn], res := .one false (.flt .f32), run := fun x => some (t_s_l02Inner x.1 x.2.1) }
set_option maxRecDepth 4000 in
theorem ok_s_l02Inner : FmOK Tryz.prog 110 m_s_l02Inner := @FmOK.made Tryz.prog E_s_l02Inner ek_s_l02Inner 110 Tryz.f110 noL m_s_l02Inner Tryz.func110 (by kernel_rfl) (Loops.none (by kernel_rfl)) fun ds out _ hr => by obtain ⟨a, b, ⟨⟩⟩ := ds; exact (ev_s_l02Inner a b).trans ((q_s_l02Inner a b).trans hr)

def E_s_l02Opposite : Tabs := (mkE tab [] [])
set_option maxRecDepth 4000 in
theorem ek_s_l02Opposite : EnvOK Tryz.prog E_s_l02Opposite := (mkE_ok tab_ok mixed AllF.nil AllX.nil)
theorem ev_s_l02Opposite (t : dTurn) (inner : Nat) : evalF E_s_l02Opposite noL Tryz.f109 [.ro true tTurn, .ro false (.flt .f32)] (.one true tTurn) (t, inner, ()) = g_s_l02Opposite t inner := by kernel_rfl
def m_s_l02Opposite : FM := { ps := [.ro true tTurn, .ro false (.flt .f32)], res := .one true tTurn, run := fun x => some (t_s_l02Opposite x.1 x.2.1) }
set_option maxRecDepth 4000 in
theorem ok_s_l02Opposite : FmOK Tryz.prog 109 m_s_l02Opposite := @FmOK.made Tryz.prog E_s_l02Opposite ek_s_l02Opposite 109 Tryz.f109 noL m_s_l02Opposite Tryz.func109 (by kernel_rfl) (Loops.none (by kernel_rfl)) fun ds out _ hr => by obtain ⟨t, inner, ⟨⟩⟩ := ds; exact (ev_s_l02Opposite t inner).trans ((q_s_l02Opposite t inner).trans hr)

def E_s_l02Step : Tabs := (mkE tab [] [])
set_option maxRecDepth 4000 in
theorem ek_s_l02Step : EnvOK Tryz.prog E_s_l02Step := (mkE_ok tab_ok mixed AllF.nil AllX.nil)
theorem ev_s_l02Step (a : Nat) (b : Nat) (share : Nat) : evalF E_s_l02Step noL Tryz.f182 [.ro false (.flt .f32), .ro false (.flt .f32), .ro false (.flt .f32)] (.one false (.flt .f32)) (a, b, share, ()) = g_s_l02Step a b share := by kernel_rfl
def m_s_l02Step : FM := { ps := [.ro false (.flt .f32), .ro false (.flt .f32), .ro false (.flt .f32)], res := .one false (.flt .f32), run := fun x => some (t_s_l02Step x.1 x.2.1 x.2.2.1) }
set_option maxRecDepth 4000 in
theorem ok_s_l02Step : FmOK Tryz.prog 182 m_s_l02Step := @FmOK.made Tryz.prog E_s_l02Step ek_s_l02Step 182 Tryz.f182 noL m_s_l02Step Tryz.func182 (by kernel_rfl) (Loops.none (by kernel_rfl)) fun ds out _ hr => by obtain ⟨a, b, share, ⟨⟩⟩ := ds; exact (ev_s_l02Step a b share).trans ((q_s_l02Step a b share).trans hr)

set_option maxRecDepth 4000 in
theorem ok_mathsqrt : FmOK Tryz.prog 203 m_mathsqrt := FmOK.sqrt Tryz.func203 (by kernel_rfl) rfl (by kernel_rfl) (by kernel_rfl)

def E_math_Sqrt : Tabs := (mkE tab [(203, m_mathsqrt)] [])
set_option maxRecDepth 4000 in
theorem ek_math_Sqrt : EnvOK Tryz.prog E_math_Sqrt := (mkE_ok tab_ok mixed (AllF.cons ok_mathsqrt AllF.nil) AllX.nil)
theorem ev_math_Sqrt (xx : Nat) : evalF E_math_Sqrt noL Tryz.f184 [.ro false (.flt .f64)] (.one false (.flt .f64)) (xx, ()) = g_math_Sqrt xx := by kernel_rfl
def m_math_Sqrt : FM := { ps := [.ro false (.flt .f64)], res := .one false (.flt .f64), run := fun x => some (t_math_Sqrt x.1) }
set_option maxRecDepth 4000 in
theorem ok_math_Sqrt : FmOK Tryz.prog 184 m_math_Sqrt := @FmOK.made Tryz.prog E_math_Sqrt ek_math_Sqrt 184 Tryz.f184 noL m_math_Sqrt Tryz.func184 (by kernel_rfl) (Loops.none (by kernel_rfl)) fun ds out _ hr => by obtain ⟨xx, ⟨⟩⟩ := ds; exact (ev_math_Sqrt xx).trans ((q_math_Sqrt xx).trans hr)

def E_s_l01Narrow : Tabs := (mkE tab [] [])
set_option maxRecDepth 4000 in
theorem ek_s_l01Narrow : EnvOK Tryz.prog E_s_l01Narrow := (mkE_ok tab_ok mixed AllF.nil AllX.nil)
theorem ev_s_l01Narrow (xx : Nat) : evalF E_s_l01Narrow noL Tryz.f183 [.ro false (.flt .f64)] (.one false (.flt .f32)) (xx, ()) = g_s_l01Narrow xx := by kernel_rfl
def m_s_l01Narrow : FM := { ps := [.ro false (.flt .f64)], res := .one false (.flt .f32), run := fun x => g_s_l01Narrow x.1 }
set_option maxRecDepth 4000 in
theorem ok_s_l01Narrow : FmOK Tryz.prog 183 m_s_l01Narrow := @FmOK.made Tryz.prog E_s_l01Narrow ek_s_l01Narrow 183 Tryz.f183 noL m_s_l01Narrow Tryz.func183 (by kernel_rfl) (Loops.none (by kernel_rfl)) fun ds out _ hr => by obtain ⟨xx, ⟨⟩⟩ := ds; exact (ev_s_l01Narrow xx).trans hr

def E_s_l01Sqrt : Tabs := (mkE tab [(184, m_math_Sqrt), (183, m_s_l01Narrow)] [])
set_option maxRecDepth 4000 in
theorem ek_s_l01Sqrt : EnvOK Tryz.prog E_s_l01Sqrt := (mkE_ok tab_ok mixed (AllF.cons ok_math_Sqrt (AllF.cons ok_s_l01Narrow AllF.nil)) AllX.nil)
theorem ev_s_l01Sqrt (xx : Nat) : evalF E_s_l01Sqrt noL Tryz.f148 [.ro false (.flt .f32)] (.one false (.flt .f32)) (xx, ()) = g_s_l01Sqrt xx := by kernel_rfl
def m_s_l01Sqrt : FM := { ps := [.ro false (.flt .f32)], res := .one false (.flt .f32), run := fun x => g_s_l01Sqrt x.1 }
set_option maxRecDepth 4000 in
theorem ok_s_l01Sqrt : FmOK Tryz.prog 148 m_s_l01Sqrt := @FmOK.made Tryz.prog E_s_l01Sqrt ek_s_l01Sqrt 148 Tryz.f148 noL m_s_l01Sqrt Tryz.func148 (by kernel_rfl) (Loops.none (by kernel_rfl)) fun ds out _ hr => by obtain ⟨xx, ⟨⟩⟩ := ds; exact (ev_s_l01Sqrt xx).trans hr

def E_s_l02No : Tabs := (mkE tab [] [])
set_option maxRecDepth 4000 in
theorem ek_s_l02No : EnvOK Tryz.prog E_s_l02No := (mkE_ok tab_ok mixed AllF.nil AllX.nil)
theorem ev_s_l02No  : evalF E_s_l02No noL Tryz.f149 [] (.one true tTurn) (()) = g_s_l02No  := by kernel_rfl
def m_s_l02No : FM := { ps := [], res := .one true tTurn, run := fun x => some (t_s_l02No ) }
set_option maxRecDepth 4000 in
theorem ok_s_l02No : FmOK Tryz.prog 149 m_s_l02No := @FmOK.made Tryz.prog E_s_l02No ek_s_l02No 149 Tryz.f149 noL m_s_l02No Tryz.func149 (by kernel_rfl) (Loops.none (by kernel_rfl)) fun ds out _ hr => by obtain ⟨⟨⟩⟩ := ds; exact (ev_s_l02No ).trans ((q_s_l02No ).trans hr)

def E_s_l02Mend : Tabs := (mkE tab [(110, m_s_l02Inner), (148, m_s_l01Sqrt), (149, m_s_l02No), (103, m_s_l01Finite)] [])
set_option maxRecDepth 4000 in
theorem ek_s_l02Mend : EnvOK Tryz.prog E_s_l02Mend := (mkE_ok tab_ok mixed (AllF.cons ok_s_l02Inner (AllF.cons ok_s_l01Sqrt (AllF.cons ok_s_l02No (AllF.cons ok_s_l01Finite AllF.nil)))) AllX.nil)
theorem ev_s_l02Mend (t : dTurn) : evalF E_s_l02Mend noL Tryz.f111 [.ro true tTurn] (.one true tTurn) (t, ()) = g_s_l02Mend t := by kernel_rfl
def m_s_l02Mend : FM := { ps := [.ro true tTurn], res := .one true tTurn, run := fun x => g_s_l02Mend x.1 }
set_option maxRecDepth 4000 in
theorem ok_s_l02Mend : FmOK Tryz.prog 111 m_s_l02Mend := @FmOK.made Tryz.prog E_s_l02Mend ek_s_l02Mend 111 Tryz.f111 noL m_s_l02Mend Tryz.func111 (by kernel_rfl) (Loops.none (by kernel_rfl)) fun ds out _ hr => by obtain ⟨t, ⟨⟩⟩ := ds; exact (ev_s_l02Mend t).trans hr

def E_s_l02Near : Tabs := (mkE tab [(110, m_s_l02Inner), (109, m_s_l02Opposite), (182, m_s_l02Step), (111, m_s_l02Mend)] [])
set_option maxRecDepth 4000 in
theorem ek_s_l02Near : EnvOK Tryz.prog E_s_l02Near := (mkE_ok tab_ok mixed (AllF.cons ok_s_l02Inner (AllF.cons ok_s_l02Opposite (AllF.cons ok_s_l02Step (AllF.cons ok_s_l02Mend AllF.nil)))) AllX.nil)
theorem ev_s_l02Near (a : dTurn) (b : dTurn) (share : Nat) : evalF E_s_l02Near noL Tryz.f147 [.ro true tTurn, .ro true tTurn, .ro false (.flt .f32)] (.one true tTurn) (a, b, share, ()) = g_s_l02Near a b share := by kernel_rfl
def m_s_l02Near : FM := { ps := [.ro true tTurn, .ro true tTurn, .ro false (.flt .f32)], res := .one true tTurn, run := fun x => g_s_l02Near x.1 x.2.1 x.2.2.1 }
set_option maxRecDepth 4000 in
theorem ok_s_l02Near : FmOK Tryz.prog 147 m_s_l02Near := @FmOK.made Tryz.prog E_s_l02Near ek_s_l02Near 147 Tryz.f147 noL m_s_l02Near Tryz.func147 (by kernel_rfl) (Loops.none (by kernel_rfl)) fun ds out _ hr => by obtain ⟨a, b, share, ⟨⟩⟩ := ds; exact (ev_s_l02Near a b share).trans hr

def E_s_l05Turn : Tabs := (mkE tab [(105, m_s_l05At), (144, m_s_l05Find), (145, m_s_l05Inside), (147, m_s_l02Near)] [])
set_option maxRecDepth 4000 in
theorem ek_s_l05Turn : EnvOK Tryz.prog E_s_l05Turn := (mkE_ok tab_ok mixed (AllF.cons ok_s_l05At (AllF.cons ok_s_l05Find (AllF.cons ok_s_l05Inside (AllF.cons ok_s_l02Near AllF.nil)))) AllX.nil)
theorem ev_s_l05Turn (track : (List dKey)) (atx : Int) (kind : Int) : evalF E_s_l05Turn noL Tryz.f108 [.ro false (.slice tKey), .ro false (.int .i64), .ro false (.int .i64)] (.one true tTurn) (track, atx, kind, ()) = g_s_l05Turn track atx kind := by kernel_rfl
def m_s_l05Turn : FM := { ps := [.ro false (.slice tKey), .ro false (.int .i64), .ro false (.int .i64)], res := .one true tTurn, run := fun x => g_s_l05Turn x.1 x.2.1 x.2.2.1 }
set_option maxRecDepth 4000 in
theorem ok_s_l05Turn : FmOK Tryz.prog 108 m_s_l05Turn := @FmOK.made Tryz.prog E_s_l05Turn ek_s_l05Turn 108 Tryz.f108 noL m_s_l05Turn Tryz.func108 (by kernel_rfl) (Loops.none (by kernel_rfl)) fun ds out _ hr => by obtain ⟨track, atx, kind, ⟨⟩⟩ := ds; exact (ev_s_l05Turn track atx kind).trans hr

def E_s_l05Pose : Tabs := (mkE tab [(107, m_s_l05Root), (108, m_s_l05Turn)] [])
set_option maxRecDepth 4000 in
theorem ek_s_l05Pose : EnvOK Tryz.prog E_s_l05Pose := (mkE_ok tab_ok mixed (AllF.cons ok_s_l05Root (AllF.cons ok_s_l05Turn AllF.nil)) AllX.nil)
def lm_L_s_l05Pose_1 : LM := { mat := [], head := { slots := [(0, .dat false (.ref tClip)), (1, .dat false (.int .i64)), (4, .cst (.ptr (.box 0 0))), (5, .cst (.ptr (.box 2 0))), (23, .dat false (.int .i64)), (24, .dat false (.int .i64))], blks := [.box [.dat tVec, .cst (.sl .nil)], .row false tTurn, .box [.dat tVec, .cst (.sl (.row 1))]] }, out := { slots := [(4, .cst (.ptr (.box 0 0))), (5, .cst (.ptr (.box 2 0)))], blks := [.box [.dat tVec, .cst (.sl .nil)], .row false tTurn, .box [.dat tVec, .cst (.sl (.row 1))]] }, ex := 0, rets := false, run := iter L_s_l05Pose_1 fuel }
def ll_s_l05Pose : List (Nat × LP) := [(3, .lm lm_L_s_l05Pose_1)]
theorem rd_L_s_l05Pose_1 (rec' : (dClip × Int × Int × Int × Unit) × ((dVec × Unit) × (List dTurn) × (dVec × Unit) × Unit) → Option ((Unit) × ((dVec × Unit) × (List dTurn) × (dVec × Unit) × Unit))) (c : dClip) (atx : Int) (t23 : Int) (t24 : Int) (b0 : dVec) (r1 : (List dTurn)) (b2 : dVec) : round E_s_l05Pose (lookL ll_s_l05Pose) lm_L_s_l05Pose_1 47 (loopAt Tryz.f61 0) rec' ((c, atx, t23, t24, ()), ((b0, ()), r1, (b2, ()), ())) = L_s_l05Pose_1 rec' ((c, atx, t23, t24, ()), ((b0, ()), r1, (b2, ()), ())) := by kernel_rfl
theorem lo_s_l05Pose : Loops E_s_l05Pose (lookL ll_s_l05Pose) Tryz.f61 := Loops.list (by kernel_rfl) (by kernel_rfl) ⟨LoopOK.iter (step := L_s_l05Pose_1) (N := fun _ => fuel) (fun rec' x => by obtain ⟨⟨c, atx, t23, t24, ⟨⟩⟩, ⟨⟨b0, ⟨⟩⟩, r1, ⟨b2, ⟨⟩⟩, ⟨⟩⟩⟩ := x; exact rd_L_s_l05Pose_1 rec' c atx t23 t24 b0 r1 b2) fun _ => rfl, trivial⟩
theorem ev_s_l05Pose (c : dClip) (atx : Int) : evalF E_s_l05Pose (lookL ll_s_l05Pose) Tryz.f61 [.rptr tClip, .ro false (.int .i64)] (.one true tPose) (c, atx, ()) = g_s_l05Pose c atx := by kernel_rfl
def m_s_l05Pose : FM := { ps := [.rptr tClip, .ro false (.int .i64)], res := .one true tPose, run := fun x => g_s_l05Pose x.1 x.2.1 }
set_option maxRecDepth 4000 in
theorem ok_s_l05Pose : FmOK Tryz.prog 61 m_s_l05Pose := @FmOK.made Tryz.prog E_s_l05Pose ek_s_l05Pose 61 Tryz.f61 (lookL ll_s_l05Pose) m_s_l05Pose Tryz.func61 (by kernel_rfl) lo_s_l05Pose fun ds out _ hr => by obtain ⟨c, atx, ⟨⟩⟩ := ds; exact (ev_s_l05Pose c atx).trans hr

def E_s_l02Mix : Tabs := (mkE tab [(110, m_s_l02Inner), (109, m_s_l02Opposite), (111, m_s_l02Mend)] [])
set_option maxRecDepth 4000 in
theorem ek_s_l02Mix : EnvOK Tryz.prog E_s_l02Mix := (mkE_ok tab_ok mixed (AllF.cons ok_s_l02Inner (AllF.cons ok_s_l02Opposite (AllF.cons ok_s_l02Mend AllF.nil))) AllX.nil)
def lm_L_s_l02Mix_1 : LM := { mat := [], head := { slots := [(0, .dat false (.slice tTurn)), (1, .dat false (.slice (.flt .f32))), (4, .cst (.ptr (.box 0 0))), (5, .cst (.ptr (.box 1 0))), (6, .dat false (.int .i64))], blks := [.box [.dat tTurn], .box [.dat tTurn]] }, out := { slots := [(4, .cst (.ptr (.box 0 0))), (5, .cst (.ptr (.box 1 0)))], blks := [.box [.dat tTurn], .box [.dat tTurn]] }, ex := 0, rets := false, run := iter L_s_l02Mix_1 fuel }
def ll_s_l02Mix : List (Nat × LP) := [(3, .lm lm_L_s_l02Mix_1)]
theorem rd_L_s_l02Mix_1 (rec' : ((List dTurn) × (List Nat) × Int × Unit) × ((dTurn × Unit) × (dTurn × Unit) × Unit) → Option ((Unit) × ((dTurn × Unit) × (dTurn × Unit) × Unit))) (list : (List dTurn)) (weights : (List Nat)) (i : Int) (b0 : dTurn) (b1 : dTurn) : round E_s_l02Mix (lookL ll_s_l02Mix) lm_L_s_l02Mix_1 74 (loopAt Tryz.f64 0) rec' ((list, weights, i, ()), ((b0, ()), (b1, ()), ())) = L_s_l02Mix_1 rec' ((list, weights, i, ()), ((b0, ()), (b1, ()), ())) := by kernel_rfl
theorem lo_s_l02Mix : Loops E_s_l02Mix (lookL ll_s_l02Mix) Tryz.f64 := Loops.list (by kernel_rfl) (by kernel_rfl) ⟨LoopOK.iter (step := L_s_l02Mix_1) (N := fun _ => fuel) (fun rec' x => by obtain ⟨⟨list, weights, i, ⟨⟩⟩, ⟨⟨b0, ⟨⟩⟩, ⟨b1, ⟨⟩⟩, ⟨⟩⟩⟩ := x; exact rd_L_s_l02Mix_1 rec' list weights i b0 b1) fun _ => rfl, trivial⟩
theorem ev_s_l02Mix (list : (List dTurn)) (weights : (List Nat)) : evalF E_s_l02Mix (lookL ll_s_l02Mix) Tryz.f64 [.ro false (.slice tTurn), .ro false (.slice (.flt .f32))] (.one true tTurn) (list, weights, ()) = g_s_l02Mix list weights := by kernel_rfl
def m_s_l02Mix : FM := { ps := [.ro false (.slice tTurn), .ro false (.slice (.flt .f32))], res := .one true tTurn, run := fun x => g_s_l02Mix x.1 x.2.1 }
set_option maxRecDepth 4000 in
theorem ok_s_l02Mix : FmOK Tryz.prog 64 m_s_l02Mix := @FmOK.made Tryz.prog E_s_l02Mix ek_s_l02Mix 64 Tryz.f64 (lookL ll_s_l02Mix) m_s_l02Mix Tryz.func64 (by kernel_rfl) lo_s_l02Mix fun ds out _ hr => by obtain ⟨list, weights, ⟨⟩⟩ := ds; exact (ev_s_l02Mix list weights).trans hr

def E_s_BlendClips : Tabs := (mkE tab [(57, m_s_l07Scale), (58, m_s_l00In), (59, m_s_l05Is), (60, m_s_l07Weights), (61, m_s_l05Pose), (63, m_s_l01Scale), (62, m_s_l01Add), (64, m_s_l02Mix)] [])
set_option maxRecDepth 4000 in
theorem ek_s_BlendClips : EnvOK Tryz.prog E_s_BlendClips := (mkE_ok tab_ok mixed (AllF.cons ok_s_l07Scale (AllF.cons ok_s_l00In (AllF.cons ok_s_l05Is (AllF.cons ok_s_l07Weights (AllF.cons ok_s_l05Pose (AllF.cons ok_s_l01Scale (AllF.cons ok_s_l01Add (AllF.cons ok_s_l02Mix AllF.nil)))))))) AllX.nil)
def lm_L_s_BlendClips_5 : LM := { mat := [], head := { slots := [(8, .cst (.ptr (.box 0 0))), (11, .cst (.sl (.row 1))), (12, .cst (.sl (.row 2))), (14, .cst (.ptr (.box 4 0))), (16, .dat false (.int .i64)), (17, .cst (.sl (.row 5))), (117, .dat false (.int .i64)), (118, .dat false (.int .i64)), (123, .dat false (.int .i64)), (124, .dat false (.int .i64))], blks := [.box [.dat tVec, .cst (.sl .nil)], .row false (.flt .f32), .row false tPose, .row false tTurn, .box [.dat tVec, .cst (.sl (.row 3))], .row false tTurn] }, out := { slots := [(8, .cst (.ptr (.box 0 0))), (11, .cst (.sl (.row 1))), (12, .cst (.sl (.row 2))), (14, .cst (.ptr (.box 4 0))), (17, .cst (.sl (.row 5))), (117, .dat false (.int .i64)), (118, .dat false (.int .i64))], blks := [.box [.dat tVec, .cst (.sl .nil)], .row false (.flt .f32), .row false tPose, .row false tTurn, .box [.dat tVec, .cst (.sl (.row 3))], .row false tTurn] }, ex := 8, rets := false, run := iter L_s_BlendClips_5 fuel }
def lm_L_s_BlendClips_4 : LM := { mat := [], head := { slots := [(8, .cst (.ptr (.box 0 0))), (11, .cst (.sl (.row 1))), (12, .cst (.sl (.row 2))), (14, .cst (.ptr (.box 4 0))), (117, .dat false (.int .i64)), (118, .dat false (.int .i64))], blks := [.box [.dat tVec, .cst (.sl .nil)], .row false (.flt .f32), .row false tPose, .row false tTurn, .box [.dat tVec, .cst (.sl (.row 3))]] }, out := { slots := [(8, .cst (.ptr (.box 0 0))), (14, .cst (.ptr (.box 4 0)))], blks := [.box [.dat tVec, .cst (.sl .nil)], .dead, .dead, .row false tTurn, .box [.dat tVec, .cst (.sl (.row 3))]] }, ex := 6, rets := false, run := iter L_s_BlendClips_4 fuel }
def lm_L_s_BlendClips_3 : LM := { mat := [], head := { slots := [(8, .cst (.ptr (.box 0 0))), (11, .cst (.sl (.row 1))), (12, .cst (.sl (.row 2))), (14, .cst (.ptr (.box 4 0))), (94, .dat false (.int .i64)), (95, .dat false (.int .i64))], blks := [.box [.dat tVec, .cst (.sl .nil)], .row false (.flt .f32), .row false tPose, .row false tTurn, .box [.dat tVec, .cst (.sl (.row 3))]] }, out := { slots := [(8, .cst (.ptr (.box 0 0))), (11, .cst (.sl (.row 1))), (12, .cst (.sl (.row 2))), (14, .cst (.ptr (.box 4 0)))], blks := [.box [.dat tVec, .cst (.sl .nil)], .row false (.flt .f32), .row false tPose, .row false tTurn, .box [.dat tVec, .cst (.sl (.row 3))]] }, ex := 4, rets := false, run := iter L_s_BlendClips_3 fuel }
def lm_L_s_BlendClips_2 : LM := { mat := [], head := { slots := [(0, .dat false (.slice tClip)), (3, .dat false (.int .i64)), (8, .cst (.ptr (.box 0 0))), (11, .cst (.sl (.row 1))), (12, .cst (.sl (.row 2))), (71, .dat false (.int .i64)), (72, .dat false (.int .i64))], blks := [.box [.dat tVec, .cst (.sl .nil)], .row false (.flt .f32), .row false tPose] }, out := { slots := [(8, .cst (.ptr (.box 0 0))), (11, .cst (.sl (.row 1))), (12, .cst (.sl (.row 2)))], blks := [.box [.dat tVec, .cst (.sl .nil)], .row false (.flt .f32), .row false tPose] }, ex := 2, rets := false, run := iter L_s_BlendClips_2 fuel }
def lm_L_s_BlendClips_1 : LM := { mat := [], head := { slots := [(0, .dat false (.slice tClip)), (1, .dat false (.slice (.flt .f32))), (2, .dat false (.flt .f32)), (3, .dat false (.int .i64)), (8, .cst (.ptr (.box 0 0))), (9, .dat false .bool), (41, .dat false (.int .i64)), (42, .dat false (.int .i64))], blks := [.box [.dat tVec, .cst (.sl .nil)]] }, out := { slots := [(0, .dat false (.slice tClip)), (1, .dat false (.slice (.flt .f32))), (2, .dat false (.flt .f32)), (3, .dat false (.int .i64)), (8, .cst (.ptr (.box 0 0))), (9, .dat false .bool)], blks := [.box [.dat tVec, .cst (.sl .nil)]] }, ex := 0, rets := true, run := iter L_s_BlendClips_1 fuel }
def ll_s_BlendClips : List (Nat × LP) := [(4, .lm lm_L_s_BlendClips_1), (12, .lm lm_L_s_BlendClips_2), (18, .lm lm_L_s_BlendClips_3), (23, .lm lm_L_s_BlendClips_4), (27, .lm lm_L_s_BlendClips_5)]
theorem rd_L_s_BlendClips_5 (rec' : (Int × Int × Int × Int × Int × Unit) × ((dVec × Unit) × (List Nat) × (List dPose) × (List dTurn) × (dVec × Unit) × (List dTurn) × Unit) → Option ((Int × Int × Unit) × ((dVec × Unit) × (List Nat) × (List dPose) × (List dTurn) × (dVec × Unit) × (List dTurn) × Unit))) (b : Int) (t117 : Int) (t118 : Int) (t123 : Int) (t124 : Int) (b0 : dVec) (r1 : (List Nat)) (r2 : (List dPose)) (r3 : (List dTurn)) (b4 : dVec) (r5 : (List dTurn)) : round E_s_BlendClips (lookL ll_s_BlendClips) lm_L_s_BlendClips_5 149 (loopAt Tryz.f18 4) rec' ((b, t117, t118, t123, t124, ()), ((b0, ()), r1, r2, r3, (b4, ()), r5, ())) = L_s_BlendClips_5 rec' ((b, t117, t118, t123, t124, ()), ((b0, ()), r1, r2, r3, (b4, ()), r5, ())) := by kernel_rfl
theorem rd_L_s_BlendClips_4 (rec' : (Int × Int × Unit) × ((dVec × Unit) × (List Nat) × (List dPose) × (List dTurn) × (dVec × Unit) × Unit) → Option ((Unit) × ((dVec × Unit) × (List dTurn) × (dVec × Unit) × Unit))) (t117 : Int) (t118 : Int) (b0 : dVec) (r1 : (List Nat)) (r2 : (List dPose)) (r3 : (List dTurn)) (b4 : dVec) : round E_s_BlendClips (lookL ll_s_BlendClips) lm_L_s_BlendClips_4 149 (loopAt Tryz.f18 3) rec' ((t117, t118, ()), ((b0, ()), r1, r2, r3, (b4, ()), ())) = L_s_BlendClips_4 rec' ((t117, t118, ()), ((b0, ()), r1, r2, r3, (b4, ()), ())) := by kernel_rfl
theorem rd_L_s_BlendClips_3 (rec' : (Int × Int × Unit) × ((dVec × Unit) × (List Nat) × (List dPose) × (List dTurn) × (dVec × Unit) × Unit) → Option ((Unit) × ((dVec × Unit) × (List Nat) × (List dPose) × (List dTurn) × (dVec × Unit) × Unit))) (t94 : Int) (t95 : Int) (b0 : dVec) (r1 : (List Nat)) (r2 : (List dPose)) (r3 : (List dTurn)) (b4 : dVec) : round E_s_BlendClips (lookL ll_s_BlendClips) lm_L_s_BlendClips_3 149 (loopAt Tryz.f18 2) rec' ((t94, t95, ()), ((b0, ()), r1, r2, r3, (b4, ()), ())) = L_s_BlendClips_3 rec' ((t94, t95, ()), ((b0, ()), r1, r2, r3, (b4, ()), ())) := by kernel_rfl
theorem rd_L_s_BlendClips_2 (rec' : ((List dClip) × Int × Int × Int × Unit) × ((dVec × Unit) × (List Nat) × (List dPose) × Unit) → Option ((Unit) × ((dVec × Unit) × (List Nat) × (List dPose) × Unit))) (clips : (List dClip)) (atx : Int) (t71 : Int) (t72 : Int) (b0 : dVec) (r1 : (List Nat)) (r2 : (List dPose)) : round E_s_BlendClips (lookL ll_s_BlendClips) lm_L_s_BlendClips_2 149 (loopAt Tryz.f18 1) rec' ((clips, atx, t71, t72, ()), ((b0, ()), r1, r2, ())) = L_s_BlendClips_2 rec' ((clips, atx, t71, t72, ()), ((b0, ()), r1, r2, ())) := by kernel_rfl
theorem rd_L_s_BlendClips_1 (rec' : ((List dClip) × (List Nat) × Nat × Int × Bool × Int × Int × Unit) × ((dVec × Unit) × Unit) → Option (Bool × (((List dClip) × (List Nat) × Nat × Int × Bool × Unit) × ((dVec × Unit) × Unit)))) (clips : (List dClip)) (points : (List Nat)) (xx : Nat) (atx : Int) (t9 : Bool) (t41 : Int) (t42 : Int) (b0 : dVec) : round E_s_BlendClips (lookL ll_s_BlendClips) lm_L_s_BlendClips_1 149 (loopAt Tryz.f18 0) rec' ((clips, points, xx, atx, t9, t41, t42, ()), ((b0, ()), ())) = L_s_BlendClips_1 rec' ((clips, points, xx, atx, t9, t41, t42, ()), ((b0, ()), ())) := by kernel_rfl
theorem lo_s_BlendClips : Loops E_s_BlendClips (lookL ll_s_BlendClips) Tryz.f18 := Loops.list (by kernel_rfl) (by kernel_rfl) ⟨LoopOK.iter (step := L_s_BlendClips_1) (N := fun _ => fuel) (fun rec' x => by obtain ⟨⟨clips, points, xx, atx, t9, t41, t42, ⟨⟩⟩, ⟨⟨b0, ⟨⟩⟩, ⟨⟩⟩⟩ := x; exact rd_L_s_BlendClips_1 rec' clips points xx atx t9 t41 t42 b0) fun _ => rfl, LoopOK.iter (step := L_s_BlendClips_2) (N := fun _ => fuel) (fun rec' x => by obtain ⟨⟨clips, atx, t71, t72, ⟨⟩⟩, ⟨⟨b0, ⟨⟩⟩, r1, r2, ⟨⟩⟩⟩ := x; exact rd_L_s_BlendClips_2 rec' clips atx t71 t72 b0 r1 r2) fun _ => rfl, LoopOK.iter (step := L_s_BlendClips_3) (N := fun _ => fuel) (fun rec' x => by obtain ⟨⟨t94, t95, ⟨⟩⟩, ⟨⟨b0, ⟨⟩⟩, r1, r2, r3, ⟨b4, ⟨⟩⟩, ⟨⟩⟩⟩ := x; exact rd_L_s_BlendClips_3 rec' t94 t95 b0 r1 r2 r3 b4) fun _ => rfl, LoopOK.iter (step := L_s_BlendClips_4) (N := fun _ => fuel) (fun rec' x => by obtain ⟨⟨t117, t118, ⟨⟩⟩, ⟨⟨b0, ⟨⟩⟩, r1, r2, r3, ⟨b4, ⟨⟩⟩, ⟨⟩⟩⟩ := x; exact rd_L_s_BlendClips_4 rec' t117 t118 b0 r1 r2 r3 b4) fun _ => rfl, LoopOK.iter (step := L_s_BlendClips_5) (N := fun _ => fuel) (fun rec' x => by obtain ⟨⟨b, t117, t118, t123, t124, ⟨⟩⟩, ⟨⟨b0, ⟨⟩⟩, r1, r2, r3, ⟨b4, ⟨⟩⟩, r5, ⟨⟩⟩⟩ := x; exact rd_L_s_BlendClips_5 rec' b t117 t118 t123 t124 b0 r1 r2 r3 b4 r5) fun _ => rfl, trivial⟩
theorem ev_s_BlendClips (clips : (List dClip)) (points : (List Nat)) (xx : Nat) (atx : Int) : evalF E_s_BlendClips (lookL ll_s_BlendClips) Tryz.f18 [.ro false (.slice tClip), .ro false (.slice (.flt .f32)), .ro false (.flt .f32), .ro false (.int .i64)] (.tup [(true, tPose), (false, .bool)]) (clips, points, xx, atx, ()) = g_s_BlendClips clips points xx atx := by kernel_rfl
def m_s_BlendClips : FM := { ps := [.ro false (.slice tClip), .ro false (.slice (.flt .f32)), .ro false (.flt .f32), .ro false (.int .i64)], res := .tup [(true, tPose), (false, .bool)], run := fun x => g_s_BlendClips x.1 x.2.1 x.2.2.1 x.2.2.2.1 }
set_option maxRecDepth 4000 in
theorem ok_s_BlendClips : FmOK Tryz.prog 18 m_s_BlendClips := @FmOK.made Tryz.prog E_s_BlendClips ek_s_BlendClips 18 Tryz.f18 (lookL ll_s_BlendClips) m_s_BlendClips Tryz.func18 (by kernel_rfl) lo_s_BlendClips fun ds out _ hr => by obtain ⟨clips, points, xx, atx, ⟨⟩⟩ := ds; exact (ev_s_BlendClips clips points xx atx).trans hr

def E_i_IsFinite : Tabs := (mkE tab [] [])
set_option maxRecDepth 4000 in
theorem ek_i_IsFinite : EnvOK Tryz.prog E_i_IsFinite := (mkE_ok tab_ok mixed AllF.nil AllX.nil)
theorem ev_i_IsFinite (xx : Nat) : evalF E_i_IsFinite noL Tryz.f152 [.ro false (.flt .f32)] (.one false .bool) (xx, ()) = g_i_IsFinite xx := by kernel_rfl
def m_i_IsFinite : FM := { ps := [.ro false (.flt .f32)], res := .one false .bool, run := fun x => some (t_i_IsFinite x.1) }
set_option maxRecDepth 4000 in
theorem ok_i_IsFinite : FmOK Tryz.prog 152 m_i_IsFinite := @FmOK.made Tryz.prog E_i_IsFinite ek_i_IsFinite 152 Tryz.f152 noL m_i_IsFinite Tryz.func152 (by kernel_rfl) (Loops.none (by kernel_rfl)) fun ds out _ hr => by obtain ⟨xx, ⟨⟩⟩ := ds; exact (ev_i_IsFinite xx).trans ((q_i_IsFinite xx).trans hr)

def E_i_IsScale : Tabs := (mkE tab [(152, m_i_IsFinite)] [])
set_option maxRecDepth 4000 in
theorem ek_i_IsScale : EnvOK Tryz.prog E_i_IsScale := (mkE_ok tab_ok mixed (AllF.cons ok_i_IsFinite AllF.nil) AllX.nil)
def lm_L_i_IsScale_1 : LM := { mat := [], head := { slots := [(0, .dat false (.slice (.flt .f32))), (2, .dat false .bool), (5, .dat false (.slice (.flt .f32))), (6, .dat false (.int .i64)), (7, .dat false (.int .i64))], blks := [] }, out := { slots := [(0, .dat false (.slice (.flt .f32))), (2, .dat false .bool)], blks := [] }, ex := 0, rets := true, run := iter L_i_IsScale_1 fuel }
def ll_i_IsScale : List (Nat × LP) := [(2, .lm lm_L_i_IsScale_1)]
theorem rd_L_i_IsScale_1 (rec' : ((List Nat) × Bool × (List Nat) × Int × Int × Unit) × (Unit) → Option (Bool × (((List Nat) × Bool × Unit) × (Unit)))) (points : (List Nat)) (t2 : Bool) (t5 : (List Nat)) (t6 : Int) (t7 : Int) : round E_i_IsScale (lookL ll_i_IsScale) lm_L_i_IsScale_1 37 (loopAt Tryz.f114 0) rec' ((points, t2, t5, t6, t7, ()), (())) = L_i_IsScale_1 rec' ((points, t2, t5, t6, t7, ()), (())) := by kernel_rfl
theorem lo_i_IsScale : Loops E_i_IsScale (lookL ll_i_IsScale) Tryz.f114 := Loops.list (by kernel_rfl) (by kernel_rfl) ⟨LoopOK.iter (step := L_i_IsScale_1) (N := fun _ => fuel) (fun rec' x => by obtain ⟨⟨points, t2, t5, t6, t7, ⟨⟩⟩, ⟨⟨⟩⟩⟩ := x; exact rd_L_i_IsScale_1 rec' points t2 t5 t6 t7) fun _ => rfl, trivial⟩
theorem ev_i_IsScale (points : (List Nat)) : evalF E_i_IsScale (lookL ll_i_IsScale) Tryz.f114 [.ro false (.slice (.flt .f32))] (.one false .bool) (points, ()) = g_i_IsScale points := by kernel_rfl
def m_i_IsScale : FM := { ps := [.ro false (.slice (.flt .f32))], res := .one false .bool, run := fun x => g_i_IsScale x.1 }
set_option maxRecDepth 4000 in
theorem ok_i_IsScale : FmOK Tryz.prog 114 m_i_IsScale := @FmOK.made Tryz.prog E_i_IsScale ek_i_IsScale 114 Tryz.f114 (lookL ll_i_IsScale) m_i_IsScale Tryz.func114 (by kernel_rfl) lo_i_IsScale fun ds out _ hr => by obtain ⟨points, ⟨⟩⟩ := ds; exact (ev_i_IsScale points).trans hr

def E_i_WeightsAt : Tabs := (mkE tab [(114, m_i_IsScale)] [])
set_option maxRecDepth 4000 in
theorem ek_i_WeightsAt : EnvOK Tryz.prog E_i_WeightsAt := (mkE_ok tab_ok mixed (AllF.cons ok_i_IsScale AllF.nil) AllX.nil)
def lm_L_i_WeightsAt_1 : LM := { mat := [], head := { slots := [(0, .dat false (.slice (.flt .f32))), (1, .dat false (.flt .f32)), (6, .cst (.sl (.row 0))), (8, .dat false (.int .i64))], blks := [.row false (.flt .f32)] }, out := { slots := [(0, .dat false (.slice (.flt .f32))), (1, .dat false (.flt .f32)), (6, .cst (.sl (.row 0))), (8, .dat false (.int .i64))], blks := [.row false (.flt .f32)] }, ex := 1, rets := false, run := iter L_i_WeightsAt_1 fuel }
def ll_i_WeightsAt : List (Nat × LP) := [(6, .lm lm_L_i_WeightsAt_1)]
theorem rd_L_i_WeightsAt_1 (rec' : ((List Nat) × Nat × Int × Unit) × ((List Nat) × Unit) → Option (((List Nat) × Nat × Int × Unit) × ((List Nat) × Unit))) (points : (List Nat)) (xx : Nat) (i : Int) (r0 : (List Nat)) : round E_i_WeightsAt (lookL ll_i_WeightsAt) lm_L_i_WeightsAt_1 79 (loopAt Tryz.f66 0) rec' ((points, xx, i, ()), (r0, ())) = L_i_WeightsAt_1 rec' ((points, xx, i, ()), (r0, ())) := by kernel_rfl
theorem lo_i_WeightsAt : Loops E_i_WeightsAt (lookL ll_i_WeightsAt) Tryz.f66 := Loops.list (by kernel_rfl) (by kernel_rfl) ⟨LoopOK.iter (step := L_i_WeightsAt_1) (N := fun _ => fuel) (fun rec' x => by obtain ⟨⟨points, xx, i, ⟨⟩⟩, ⟨r0, ⟨⟩⟩⟩ := x; exact rd_L_i_WeightsAt_1 rec' points xx i r0) fun _ => rfl, trivial⟩
theorem ev_i_WeightsAt (points : (List Nat)) (xx : Nat) : evalF E_i_WeightsAt (lookL ll_i_WeightsAt) Tryz.f66 [.ro false (.slice (.flt .f32)), .ro false (.flt .f32)] (.tup [(false, (.slice (.flt .f32))), (false, .bool)]) (points, xx, ()) = g_i_WeightsAt points xx := by kernel_rfl
def m_i_WeightsAt : FM := { ps := [.ro false (.slice (.flt .f32)), .ro false (.flt .f32)], res := .tup [(false, (.slice (.flt .f32))), (false, .bool)], run := fun x => g_i_WeightsAt x.1 x.2.1 }
set_option maxRecDepth 4000 in
theorem ok_i_WeightsAt : FmOK Tryz.prog 66 m_i_WeightsAt := @FmOK.made Tryz.prog E_i_WeightsAt ek_i_WeightsAt 66 Tryz.f66 (lookL ll_i_WeightsAt) m_i_WeightsAt Tryz.func66 (by kernel_rfl) lo_i_WeightsAt fun ds out _ hr => by obtain ⟨points, xx, ⟨⟩⟩ := ds; exact (ev_i_WeightsAt points xx).trans hr

def E_i_turnTrack : Tabs := (mkE tab [] [])
set_option maxRecDepth 4000 in
theorem ek_i_turnTrack : EnvOK Tryz.prog E_i_turnTrack := (mkE_ok tab_ok mixed AllF.nil AllX.nil)
theorem ev_i_turnTrack  : evalF E_i_turnTrack noL Tryz.f119 [] (.one true (.pair (.fn 158) (.pair (.fn 159) (.pair (.fn 160) .unit)))) (()) = g_i_turnTrack  := by kernel_rfl
def m_i_turnTrack : FM := { ps := [], res := .one true (.pair (.fn 158) (.pair (.fn 159) (.pair (.fn 160) .unit))), run := fun x => some (t_i_turnTrack ) }
set_option maxRecDepth 4000 in
theorem ok_i_turnTrack : FmOK Tryz.prog 119 m_i_turnTrack := @FmOK.made Tryz.prog E_i_turnTrack ek_i_turnTrack 119 Tryz.f119 noL m_i_turnTrack Tryz.func119 (by kernel_rfl) (Loops.none (by kernel_rfl)) fun ds out _ hr => by obtain ⟨⟨⟩⟩ := ds; exact (ev_i_turnTrack ).trans ((q_i_turnTrack ).trans hr)

def E_i_turnTrack_1 : Tabs := (mkE tab [] [])
set_option maxRecDepth 4000 in
theorem ek_i_turnTrack_1 : EnvOK Tryz.prog E_i_turnTrack_1 := (mkE_ok tab_ok mixed AllF.nil AllX.nil)
theorem ev_i_turnTrack_1 (k : dKey) : evalF E_i_turnTrack_1 noL Tryz.f158 [.ro true tKey] (.one false (.int .i64)) (k, ()) = g_i_turnTrack_1 k := by kernel_rfl
def m_i_turnTrack_1 : FM := { ps := [.ro true tKey], res := .one false (.int .i64), run := fun x => some (t_i_turnTrack_1 x.1) }
set_option maxRecDepth 4000 in
theorem ok_i_turnTrack_1 : FmOK Tryz.prog 158 m_i_turnTrack_1 := @FmOK.made Tryz.prog E_i_turnTrack_1 ek_i_turnTrack_1 158 Tryz.f158 noL m_i_turnTrack_1 Tryz.func158 (by kernel_rfl) (Loops.none (by kernel_rfl)) fun ds out _ hr => by obtain ⟨k, ⟨⟩⟩ := ds; exact (ev_i_turnTrack_1 k).trans ((q_i_turnTrack_1 k).trans hr)

def E_i_track_i_Key_valid : Tabs := (mkE tab [(158, m_i_turnTrack_1)] [])
set_option maxRecDepth 4000 in
theorem ek_i_track_i_Key_valid : EnvOK Tryz.prog E_i_track_i_Key_valid := (mkE_ok tab_ok mixed (AllF.cons ok_i_turnTrack_1 AllF.nil) AllX.nil)
def lm_L_i_track_i_Key_valid_1 : LM := { mat := [], head := { slots := [(1, .dat false (.slice tKey)), (2, .dat false (.int .i64)), (3, .cst (.ptr (.box 0 0))), (6, .dat false .bool), (7, .dat false (.int .i64)), (11, .dat false (.slice tKey)), (12, .dat false (.int .i64)), (13, .dat false (.int .i64))], blks := [.box [.dat (.pair (.fn 158) (.pair (.fn 159) (.pair (.fn 160) .unit)))]] }, out := { slots := [(1, .dat false (.slice tKey)), (6, .dat false .bool)], blks := [.dead] }, ex := 0, rets := true, run := iter L_i_track_i_Key_valid_1 fuel }
def ll_i_track_i_Key_valid : List (Nat × LP) := [(3, .lm lm_L_i_track_i_Key_valid_1)]
theorem rd_L_i_track_i_Key_valid_1 (rec' : ((List dKey) × Int × Bool × Int × (List dKey) × Int × Int × Unit) × (((Unit × (Unit × (Unit × Unit))) × Unit) × Unit) → Option (Bool × (((List dKey) × Bool × Unit) × (Unit)))) (keys : (List dKey)) (length : Int) (t6 : Bool) (last : Int) (t11 : (List dKey)) (t12 : Int) (t13 : Int) (b0 : (Unit × (Unit × (Unit × Unit)))) : round E_i_track_i_Key_valid (lookL ll_i_track_i_Key_valid) lm_L_i_track_i_Key_valid_1 42 (loopAt Tryz.f154 0) rec' ((keys, length, t6, last, t11, t12, t13, ()), ((b0, ()), ())) = L_i_track_i_Key_valid_1 rec' ((keys, length, t6, last, t11, t12, t13, ()), ((b0, ()), ())) := by kernel_rfl
theorem lo_i_track_i_Key_valid : Loops E_i_track_i_Key_valid (lookL ll_i_track_i_Key_valid) Tryz.f154 := Loops.list (by kernel_rfl) (by kernel_rfl) ⟨LoopOK.iter (step := L_i_track_i_Key_valid_1) (N := fun _ => fuel) (fun rec' x => by obtain ⟨⟨keys, length, t6, last, t11, t12, t13, ⟨⟩⟩, ⟨⟨b0, ⟨⟩⟩, ⟨⟩⟩⟩ := x; exact rd_L_i_track_i_Key_valid_1 rec' keys length t6 last t11 t12 t13 b0) fun _ => rfl, trivial⟩
theorem ev_i_track_i_Key_valid (t : (Unit × (Unit × (Unit × Unit)))) (keys : (List dKey)) (length : Int) : evalF E_i_track_i_Key_valid (lookL ll_i_track_i_Key_valid) Tryz.f154 [.ro true (.pair (.fn 158) (.pair (.fn 159) (.pair (.fn 160) .unit))), .ro false (.slice tKey), .ro false (.int .i64)] (.one false .bool) (t, keys, length, ()) = g_i_track_i_Key_valid t keys length := by kernel_rfl
def m_i_track_i_Key_valid : FM := { ps := [.ro true (.pair (.fn 158) (.pair (.fn 159) (.pair (.fn 160) .unit))), .ro false (.slice tKey), .ro false (.int .i64)], res := .one false .bool, run := fun x => g_i_track_i_Key_valid x.1 x.2.1 x.2.2.1 }
set_option maxRecDepth 4000 in
theorem ok_i_track_i_Key_valid : FmOK Tryz.prog 154 m_i_track_i_Key_valid := @FmOK.made Tryz.prog E_i_track_i_Key_valid ek_i_track_i_Key_valid 154 Tryz.f154 (lookL ll_i_track_i_Key_valid) m_i_track_i_Key_valid Tryz.func154 (by kernel_rfl) lo_i_track_i_Key_valid fun ds out _ hr => by obtain ⟨t, keys, length, ⟨⟩⟩ := ds; exact (ev_i_track_i_Key_valid t keys length).trans hr

def E_i_rootTrack : Tabs := (mkE tab [] [])
set_option maxRecDepth 4000 in
theorem ek_i_rootTrack : EnvOK Tryz.prog E_i_rootTrack := (mkE_ok tab_ok mixed AllF.nil AllX.nil)
theorem ev_i_rootTrack  : evalF E_i_rootTrack noL Tryz.f155 [] (.one true (.pair (.fn 187) (.pair (.fn 188) (.pair (.fn 189) .unit)))) (()) = g_i_rootTrack  := by kernel_rfl
def m_i_rootTrack : FM := { ps := [], res := .one true (.pair (.fn 187) (.pair (.fn 188) (.pair (.fn 189) .unit))), run := fun x => some (t_i_rootTrack ) }
set_option maxRecDepth 4000 in
theorem ok_i_rootTrack : FmOK Tryz.prog 155 m_i_rootTrack := @FmOK.made Tryz.prog E_i_rootTrack ek_i_rootTrack 155 Tryz.f155 noL m_i_rootTrack Tryz.func155 (by kernel_rfl) (Loops.none (by kernel_rfl)) fun ds out _ hr => by obtain ⟨⟨⟩⟩ := ds; exact (ev_i_rootTrack ).trans ((q_i_rootTrack ).trans hr)

def E_i_rootTrack_1 : Tabs := (mkE tab [] [])
set_option maxRecDepth 4000 in
theorem ek_i_rootTrack_1 : EnvOK Tryz.prog E_i_rootTrack_1 := (mkE_ok tab_ok mixed AllF.nil AllX.nil)
theorem ev_i_rootTrack_1 (k : dRootKey) : evalF E_i_rootTrack_1 noL Tryz.f187 [.ro true tRootKey] (.one false (.int .i64)) (k, ()) = g_i_rootTrack_1 k := by kernel_rfl
def m_i_rootTrack_1 : FM := { ps := [.ro true tRootKey], res := .one false (.int .i64), run := fun x => some (t_i_rootTrack_1 x.1) }
set_option maxRecDepth 4000 in
theorem ok_i_rootTrack_1 : FmOK Tryz.prog 187 m_i_rootTrack_1 := @FmOK.made Tryz.prog E_i_rootTrack_1 ek_i_rootTrack_1 187 Tryz.f187 noL m_i_rootTrack_1 Tryz.func187 (by kernel_rfl) (Loops.none (by kernel_rfl)) fun ds out _ hr => by obtain ⟨k, ⟨⟩⟩ := ds; exact (ev_i_rootTrack_1 k).trans ((q_i_rootTrack_1 k).trans hr)

def E_i_track_i_RootKey_valid : Tabs := (mkE tab [(187, m_i_rootTrack_1)] [])
set_option maxRecDepth 4000 in
theorem ek_i_track_i_RootKey_valid : EnvOK Tryz.prog E_i_track_i_RootKey_valid := (mkE_ok tab_ok mixed (AllF.cons ok_i_rootTrack_1 AllF.nil) AllX.nil)
def lm_L_i_track_i_RootKey_valid_1 : LM := { mat := [], head := { slots := [(1, .dat false (.slice tRootKey)), (2, .dat false (.int .i64)), (3, .cst (.ptr (.box 0 0))), (6, .dat false .bool), (7, .dat false (.int .i64)), (11, .dat false (.slice tRootKey)), (12, .dat false (.int .i64)), (13, .dat false (.int .i64))], blks := [.box [.dat (.pair (.fn 187) (.pair (.fn 188) (.pair (.fn 189) .unit)))]] }, out := { slots := [(1, .dat false (.slice tRootKey)), (6, .dat false .bool)], blks := [.dead] }, ex := 0, rets := true, run := iter L_i_track_i_RootKey_valid_1 fuel }
def ll_i_track_i_RootKey_valid : List (Nat × LP) := [(3, .lm lm_L_i_track_i_RootKey_valid_1)]
theorem rd_L_i_track_i_RootKey_valid_1 (rec' : ((List dRootKey) × Int × Bool × Int × (List dRootKey) × Int × Int × Unit) × (((Unit × (Unit × (Unit × Unit))) × Unit) × Unit) → Option (Bool × (((List dRootKey) × Bool × Unit) × (Unit)))) (keys : (List dRootKey)) (length : Int) (t6 : Bool) (last : Int) (t11 : (List dRootKey)) (t12 : Int) (t13 : Int) (b0 : (Unit × (Unit × (Unit × Unit)))) : round E_i_track_i_RootKey_valid (lookL ll_i_track_i_RootKey_valid) lm_L_i_track_i_RootKey_valid_1 42 (loopAt Tryz.f156 0) rec' ((keys, length, t6, last, t11, t12, t13, ()), ((b0, ()), ())) = L_i_track_i_RootKey_valid_1 rec' ((keys, length, t6, last, t11, t12, t13, ()), ((b0, ()), ())) := by kernel_rfl
theorem lo_i_track_i_RootKey_valid : Loops E_i_track_i_RootKey_valid (lookL ll_i_track_i_RootKey_valid) Tryz.f156 := Loops.list (by kernel_rfl) (by kernel_rfl) ⟨LoopOK.iter (step := L_i_track_i_RootKey_valid_1) (N := fun _ => fuel) (fun rec' x => by obtain ⟨⟨keys, length, t6, last, t11, t12, t13, ⟨⟩⟩, ⟨⟨b0, ⟨⟩⟩, ⟨⟩⟩⟩ := x; exact rd_L_i_track_i_RootKey_valid_1 rec' keys length t6 last t11 t12 t13 b0) fun _ => rfl, trivial⟩
theorem ev_i_track_i_RootKey_valid (t : (Unit × (Unit × (Unit × Unit)))) (keys : (List dRootKey)) (length : Int) : evalF E_i_track_i_RootKey_valid (lookL ll_i_track_i_RootKey_valid) Tryz.f156 [.ro true (.pair (.fn 187) (.pair (.fn 188) (.pair (.fn 189) .unit))), .ro false (.slice tRootKey), .ro false (.int .i64)] (.one false .bool) (t, keys, length, ()) = g_i_track_i_RootKey_valid t keys length := by kernel_rfl
def m_i_track_i_RootKey_valid : FM := { ps := [.ro true (.pair (.fn 187) (.pair (.fn 188) (.pair (.fn 189) .unit))), .ro false (.slice tRootKey), .ro false (.int .i64)], res := .one false .bool, run := fun x => g_i_track_i_RootKey_valid x.1 x.2.1 x.2.2.1 }
set_option maxRecDepth 4000 in
theorem ok_i_track_i_RootKey_valid : FmOK Tryz.prog 156 m_i_track_i_RootKey_valid := @FmOK.made Tryz.prog E_i_track_i_RootKey_valid ek_i_track_i_RootKey_valid 156 Tryz.f156 (lookL ll_i_track_i_RootKey_valid) m_i_track_i_RootKey_valid Tryz.func156 (by kernel_rfl) lo_i_track_i_RootKey_valid fun ds out _ hr => by obtain ⟨t, keys, length, ⟨⟩⟩ := ds; exact (ev_i_track_i_RootKey_valid t keys length).trans hr

def E_i_ValidClip : Tabs := (mkE tab [(119, m_i_turnTrack), (154, m_i_track_i_Key_valid), (155, m_i_rootTrack), (156, m_i_track_i_RootKey_valid)] [])
set_option maxRecDepth 4000 in
theorem ek_i_ValidClip : EnvOK Tryz.prog E_i_ValidClip := (mkE_ok tab_ok mixed (AllF.cons ok_i_turnTrack (AllF.cons ok_i_track_i_Key_valid (AllF.cons ok_i_rootTrack (AllF.cons ok_i_track_i_RootKey_valid AllF.nil)))) AllX.nil)
def lm_L_i_ValidClip_1 : LM := { mat := [], head := { slots := [(1, .cst (.ptr (.box 0 0))), (2, .dat false .bool), (36, .dat false (.slice (.slice tKey))), (37, .dat false (.int .i64)), (38, .dat false (.int .i64))], blks := [.box [.dat tClip]] }, out := { slots := [(1, .cst (.ptr (.box 0 0))), (2, .dat false .bool)], blks := [.box [.dat tClip]] }, ex := 0, rets := true, run := iter L_i_ValidClip_1 fuel }
def ll_i_ValidClip : List (Nat × LP) := [(4, .lm lm_L_i_ValidClip_1)]
theorem rd_L_i_ValidClip_1 (rec' : (Bool × (List (List dKey)) × Int × Int × Unit) × ((dClip × Unit) × Unit) → Option (Bool × ((Bool × Unit) × ((dClip × Unit) × Unit)))) (t2 : Bool) (t36 : (List (List dKey))) (t37 : Int) (t38 : Int) (b0 : dClip) : round E_i_ValidClip (lookL ll_i_ValidClip) lm_L_i_ValidClip_1 55 (loopAt Tryz.f117 0) rec' ((t2, t36, t37, t38, ()), ((b0, ()), ())) = L_i_ValidClip_1 rec' ((t2, t36, t37, t38, ()), ((b0, ()), ())) := by kernel_rfl
theorem lo_i_ValidClip : Loops E_i_ValidClip (lookL ll_i_ValidClip) Tryz.f117 := Loops.list (by kernel_rfl) (by kernel_rfl) ⟨LoopOK.iter (step := L_i_ValidClip_1) (N := fun _ => fuel) (fun rec' x => by obtain ⟨⟨t2, t36, t37, t38, ⟨⟩⟩, ⟨⟨b0, ⟨⟩⟩, ⟨⟩⟩⟩ := x; exact rd_L_i_ValidClip_1 rec' t2 t36 t37 t38 b0) fun _ => rfl, trivial⟩
theorem ev_i_ValidClip (c : dClip) : evalF E_i_ValidClip (lookL ll_i_ValidClip) Tryz.f117 [.ro true tClip] (.one false .bool) (c, ()) = g_i_ValidClip c := by kernel_rfl
def m_i_ValidClip : FM := { ps := [.ro true tClip], res := .one false .bool, run := fun x => g_i_ValidClip x.1 }
set_option maxRecDepth 4000 in
theorem ok_i_ValidClip : FmOK Tryz.prog 117 m_i_ValidClip := @FmOK.made Tryz.prog E_i_ValidClip ek_i_ValidClip 117 Tryz.f117 (lookL ll_i_ValidClip) m_i_ValidClip Tryz.func117 (by kernel_rfl) lo_i_ValidClip fun ds out _ hr => by obtain ⟨c, ⟨⟩⟩ := ds; exact (ev_i_ValidClip c).trans hr

def E_i_areClips_1 : Tabs := (mkE tab [(117, m_i_ValidClip)] [])
set_option maxRecDepth 4000 in
theorem ek_i_areClips_1 : EnvOK Tryz.prog E_i_areClips_1 := (mkE_ok tab_ok mixed (AllF.cons ok_i_ValidClip AllF.nil) AllX.nil)
theorem ev_i_areClips_1 (c : dClip) (p1 : (List dClip)) : evalF E_i_areClips_1 noL Tryz.f116 [.ro true tClip, .rptr (.slice tClip)] (.one false .bool) (c, p1, ()) = g_i_areClips_1 c p1 := by kernel_rfl
def m_i_areClips_1 : FM := { ps := [.ro true tClip, .rptr (.slice tClip)], res := .one false .bool, run := fun x => g_i_areClips_1 x.1 x.2.1 }
set_option maxRecDepth 4000 in
theorem ok_i_areClips_1 : FmOK Tryz.prog 116 m_i_areClips_1 := @FmOK.made Tryz.prog E_i_areClips_1 ek_i_areClips_1 116 Tryz.f116 noL m_i_areClips_1 Tryz.func116 (by kernel_rfl) (Loops.none (by kernel_rfl)) fun ds out _ hr => by obtain ⟨c, p1, ⟨⟩⟩ := ds; exact (ev_i_areClips_1 c p1).trans hr

def E_slices_IndexFunc_i_Clip_i_Clip : Tabs := (mkE tab [(116, m_i_areClips_1)] [])
set_option maxRecDepth 4000 in
theorem ek_slices_IndexFunc_i_Clip_i_Clip : EnvOK Tryz.prog E_slices_IndexFunc_i_Clip_i_Clip := (mkE_ok tab_ok mixed (AllF.cons ok_i_areClips_1 AllF.nil) AllX.nil)
def lm_L_slices_IndexFunc_i_Clip_i_Clip_1 : LM := { mat := [], head := { slots := [(0, .dat false (.slice tClip)), (1, .fnc 116 [(.slice tClip)]), (4, .dat false (.int .i64)), (7, .dat false (.int .i64)), (8, .dat false (.int .i64))], blks := [] }, out := { slots := [(4, .dat false (.int .i64))], blks := [] }, ex := 0, rets := true, run := iter L_slices_IndexFunc_i_Clip_i_Clip_1 fuel }
def ll_slices_IndexFunc_i_Clip_i_Clip : List (Nat × LP) := [(2, .lm lm_L_slices_IndexFunc_i_Clip_i_Clip_1)]
theorem rd_L_slices_IndexFunc_i_Clip_i_Clip_1 (rec' : ((List dClip) × ((List dClip) × Unit) × Int × Int × Int × Unit) × (Unit) → Option (Bool × ((Int × Unit) × (Unit)))) (s : (List dClip)) (f : ((List dClip) × Unit)) (t4 : Int) (t7 : Int) (t8 : Int) : round E_slices_IndexFunc_i_Clip_i_Clip (lookL ll_slices_IndexFunc_i_Clip_i_Clip) lm_L_slices_IndexFunc_i_Clip_i_Clip_1 19 (loopAt Tryz.f153 0) rec' ((s, f, t4, t7, t8, ()), (())) = L_slices_IndexFunc_i_Clip_i_Clip_1 rec' ((s, f, t4, t7, t8, ()), (())) := by kernel_rfl
theorem lo_slices_IndexFunc_i_Clip_i_Clip : Loops E_slices_IndexFunc_i_Clip_i_Clip (lookL ll_slices_IndexFunc_i_Clip_i_Clip) Tryz.f153 := Loops.list (by kernel_rfl) (by kernel_rfl) ⟨LoopOK.iter (step := L_slices_IndexFunc_i_Clip_i_Clip_1) (N := fun _ => fuel) (fun rec' x => by obtain ⟨⟨s, f, t4, t7, t8, ⟨⟩⟩, ⟨⟨⟩⟩⟩ := x; exact rd_L_slices_IndexFunc_i_Clip_i_Clip_1 rec' s f t4 t7 t8) fun _ => rfl, trivial⟩
theorem ev_slices_IndexFunc_i_Clip_i_Clip (s : (List dClip)) (f : ((List dClip) × Unit)) : evalF E_slices_IndexFunc_i_Clip_i_Clip (lookL ll_slices_IndexFunc_i_Clip_i_Clip) Tryz.f153 [.ro false (.slice tClip), .fnc 116 [(.slice tClip)]] (.one false (.int .i64)) (s, f, ()) = g_slices_IndexFunc_i_Clip_i_Clip s f := by kernel_rfl
def m_slices_IndexFunc_i_Clip_i_Clip : FM := { ps := [.ro false (.slice tClip), .fnc 116 [(.slice tClip)]], res := .one false (.int .i64), run := fun x => g_slices_IndexFunc_i_Clip_i_Clip x.1 x.2.1 }
set_option maxRecDepth 4000 in
theorem ok_slices_IndexFunc_i_Clip_i_Clip : FmOK Tryz.prog 153 m_slices_IndexFunc_i_Clip_i_Clip := @FmOK.made Tryz.prog E_slices_IndexFunc_i_Clip_i_Clip ek_slices_IndexFunc_i_Clip_i_Clip 153 Tryz.f153 (lookL ll_slices_IndexFunc_i_Clip_i_Clip) m_slices_IndexFunc_i_Clip_i_Clip Tryz.func153 (by kernel_rfl) lo_slices_IndexFunc_i_Clip_i_Clip fun ds out _ hr => by obtain ⟨s, f, ⟨⟩⟩ := ds; exact (ev_slices_IndexFunc_i_Clip_i_Clip s f).trans hr

def E_slices_ContainsFunc_i_Clip_i_Clip : Tabs := (mkE tab [(153, m_slices_IndexFunc_i_Clip_i_Clip)] [])
set_option maxRecDepth 4000 in
theorem ek_slices_ContainsFunc_i_Clip_i_Clip : EnvOK Tryz.prog E_slices_ContainsFunc_i_Clip_i_Clip := (mkE_ok tab_ok mixed (AllF.cons ok_slices_IndexFunc_i_Clip_i_Clip AllF.nil) AllX.nil)
theorem ev_slices_ContainsFunc_i_Clip_i_Clip (s : (List dClip)) (f : ((List dClip) × Unit)) : evalF E_slices_ContainsFunc_i_Clip_i_Clip noL Tryz.f115 [.ro false (.slice tClip), .fnc 116 [(.slice tClip)]] (.one false .bool) (s, f, ()) = g_slices_ContainsFunc_i_Clip_i_Clip s f := by kernel_rfl
def m_slices_ContainsFunc_i_Clip_i_Clip : FM := { ps := [.ro false (.slice tClip), .fnc 116 [(.slice tClip)]], res := .one false .bool, run := fun x => g_slices_ContainsFunc_i_Clip_i_Clip x.1 x.2.1 }
set_option maxRecDepth 4000 in
theorem ok_slices_ContainsFunc_i_Clip_i_Clip : FmOK Tryz.prog 115 m_slices_ContainsFunc_i_Clip_i_Clip := @FmOK.made Tryz.prog E_slices_ContainsFunc_i_Clip_i_Clip ek_slices_ContainsFunc_i_Clip_i_Clip 115 Tryz.f115 noL m_slices_ContainsFunc_i_Clip_i_Clip Tryz.func115 (by kernel_rfl) (Loops.none (by kernel_rfl)) fun ds out _ hr => by obtain ⟨s, f, ⟨⟩⟩ := ds; exact (ev_slices_ContainsFunc_i_Clip_i_Clip s f).trans hr

def E_i_areClips : Tabs := (mkE tab [(115, m_slices_ContainsFunc_i_Clip_i_Clip)] [])
set_option maxRecDepth 4000 in
theorem ek_i_areClips : EnvOK Tryz.prog E_i_areClips := (mkE_ok tab_ok mixed (AllF.cons ok_slices_ContainsFunc_i_Clip_i_Clip AllF.nil) AllX.nil)
theorem ev_i_areClips (clips : (List dClip)) : evalF E_i_areClips noL Tryz.f67 [.ro false (.slice tClip)] (.one false .bool) (clips, ()) = g_i_areClips clips := by kernel_rfl
def m_i_areClips : FM := { ps := [.ro false (.slice tClip)], res := .one false .bool, run := fun x => g_i_areClips x.1 }
set_option maxRecDepth 4000 in
theorem ok_i_areClips : FmOK Tryz.prog 67 m_i_areClips := @FmOK.made Tryz.prog E_i_areClips ek_i_areClips 67 Tryz.f67 noL m_i_areClips Tryz.func67 (by kernel_rfl) (Loops.none (by kernel_rfl)) fun ds out _ hr => by obtain ⟨clips, ⟨⟩⟩ := ds; exact (ev_i_areClips clips).trans hr

def E_i_rootTrack_2 : Tabs := (mkE tab [] [])
set_option maxRecDepth 4000 in
theorem ek_i_rootTrack_2 : EnvOK Tryz.prog E_i_rootTrack_2 := (mkE_ok tab_ok mixed AllF.nil AllX.nil)
theorem ev_i_rootTrack_2 (k : dRootKey) (atx : Int) : evalF E_i_rootTrack_2 noL Tryz.f188 [.ro true tRootKey, .ro false (.int .i64)] (.one true tRootKey) (k, atx, ()) = g_i_rootTrack_2 k atx := by kernel_rfl
def m_i_rootTrack_2 : FM := { ps := [.ro true tRootKey, .ro false (.int .i64)], res := .one true tRootKey, run := fun x => some (t_i_rootTrack_2 x.1 x.2.1) }
set_option maxRecDepth 4000 in
theorem ok_i_rootTrack_2 : FmOK Tryz.prog 188 m_i_rootTrack_2 := @FmOK.made Tryz.prog E_i_rootTrack_2 ek_i_rootTrack_2 188 Tryz.f188 noL m_i_rootTrack_2 Tryz.func188 (by kernel_rfl) (Loops.none (by kernel_rfl)) fun ds out _ hr => by obtain ⟨k, atx, ⟨⟩⟩ := ds; exact (ev_i_rootTrack_2 k atx).trans ((q_i_rootTrack_2 k atx).trans hr)

def E_i_share : Tabs := (mkE tab [] [])
set_option maxRecDepth 4000 in
theorem ek_i_share : EnvOK Tryz.prog E_i_share := (mkE_ok tab_ok mixed AllF.nil AllX.nil)
theorem ev_i_share (fromx : Int) (atx : Int) (tox : Int) : evalF E_i_share noL Tryz.f162 [.ro false (.int .i64), .ro false (.int .i64), .ro false (.int .i64)] (.one false (.flt .f32)) (fromx, atx, tox, ()) = g_i_share fromx atx tox := by kernel_rfl
def m_i_share : FM := { ps := [.ro false (.int .i64), .ro false (.int .i64), .ro false (.int .i64)], res := .one false (.flt .f32), run := fun x => some (t_i_share x.1 x.2.1 x.2.2.1) }
set_option maxRecDepth 4000 in
theorem ok_i_share : FmOK Tryz.prog 162 m_i_share := @FmOK.made Tryz.prog E_i_share ek_i_share 162 Tryz.f162 noL m_i_share Tryz.func162 (by kernel_rfl) (Loops.none (by kernel_rfl)) fun ds out _ hr => by obtain ⟨fromx, atx, tox, ⟨⟩⟩ := ds; exact (ev_i_share fromx atx tox).trans ((q_i_share fromx atx tox).trans hr)

def E_i_LessVectors : Tabs := (mkE tab [] [])
set_option maxRecDepth 4000 in
theorem ek_i_LessVectors : EnvOK Tryz.prog E_i_LessVectors := (mkE_ok tab_ok mixed AllF.nil AllX.nil)
theorem ev_i_LessVectors (a : dVec) (b : dVec) : evalF E_i_LessVectors noL Tryz.f205 [.ro true tVec, .ro true tVec] (.one true tVec) (a, b, ()) = g_i_LessVectors a b := by kernel_rfl
def m_i_LessVectors : FM := { ps := [.ro true tVec, .ro true tVec], res := .one true tVec, run := fun x => some (t_i_LessVectors x.1 x.2.1) }
set_option maxRecDepth 4000 in
theorem ok_i_LessVectors : FmOK Tryz.prog 205 m_i_LessVectors := @FmOK.made Tryz.prog E_i_LessVectors ek_i_LessVectors 205 Tryz.f205 noL m_i_LessVectors Tryz.func205 (by kernel_rfl) (Loops.none (by kernel_rfl)) fun ds out _ hr => by obtain ⟨a, b, ⟨⟩⟩ := ds; exact (ev_i_LessVectors a b).trans ((q_i_LessVectors a b).trans hr)

def E_i_ScaleVector : Tabs := (mkE tab [] [])
set_option maxRecDepth 4000 in
theorem ek_i_ScaleVector : EnvOK Tryz.prog E_i_ScaleVector := (mkE_ok tab_ok mixed AllF.nil AllX.nil)
theorem ev_i_ScaleVector (v : dVec) (byx : Nat) : evalF E_i_ScaleVector noL Tryz.f71 [.ro true tVec, .ro false (.flt .f32)] (.one true tVec) (v, byx, ()) = g_i_ScaleVector v byx := by kernel_rfl
def m_i_ScaleVector : FM := { ps := [.ro true tVec, .ro false (.flt .f32)], res := .one true tVec, run := fun x => some (t_i_ScaleVector x.1 x.2.1) }
set_option maxRecDepth 4000 in
theorem ok_i_ScaleVector : FmOK Tryz.prog 71 m_i_ScaleVector := @FmOK.made Tryz.prog E_i_ScaleVector ek_i_ScaleVector 71 Tryz.f71 noL m_i_ScaleVector Tryz.func71 (by kernel_rfl) (Loops.none (by kernel_rfl)) fun ds out _ hr => by obtain ⟨v, byx, ⟨⟩⟩ := ds; exact (ev_i_ScaleVector v byx).trans ((q_i_ScaleVector v byx).trans hr)

def E_i_AddVectors : Tabs := (mkE tab [] [])
set_option maxRecDepth 4000 in
theorem ek_i_AddVectors : EnvOK Tryz.prog E_i_AddVectors := (mkE_ok tab_ok mixed AllF.nil AllX.nil)
theorem ev_i_AddVectors (a : dVec) (b : dVec) : evalF E_i_AddVectors noL Tryz.f70 [.ro true tVec, .ro true tVec] (.one true tVec) (a, b, ()) = g_i_AddVectors a b := by kernel_rfl
def m_i_AddVectors : FM := { ps := [.ro true tVec, .ro true tVec], res := .one true tVec, run := fun x => some (t_i_AddVectors x.1 x.2.1) }
set_option maxRecDepth 4000 in
theorem ok_i_AddVectors : FmOK Tryz.prog 70 m_i_AddVectors := @FmOK.made Tryz.prog E_i_AddVectors ek_i_AddVectors 70 Tryz.f70 noL m_i_AddVectors Tryz.func70 (by kernel_rfl) (Loops.none (by kernel_rfl)) fun ds out _ hr => by obtain ⟨a, b, ⟨⟩⟩ := ds; exact (ev_i_AddVectors a b).trans ((q_i_AddVectors a b).trans hr)

def E_i_BetweenVectors : Tabs := (mkE tab [(205, m_i_LessVectors), (71, m_i_ScaleVector), (70, m_i_AddVectors)] [])
set_option maxRecDepth 4000 in
theorem ek_i_BetweenVectors : EnvOK Tryz.prog E_i_BetweenVectors := (mkE_ok tab_ok mixed (AllF.cons ok_i_LessVectors (AllF.cons ok_i_ScaleVector (AllF.cons ok_i_AddVectors AllF.nil))) AllX.nil)
theorem ev_i_BetweenVectors (a : dVec) (b : dVec) (share : Nat) : evalF E_i_BetweenVectors noL Tryz.f190 [.ro true tVec, .ro true tVec, .ro false (.flt .f32)] (.one true tVec) (a, b, share, ()) = g_i_BetweenVectors a b share := by kernel_rfl
def m_i_BetweenVectors : FM := { ps := [.ro true tVec, .ro true tVec, .ro false (.flt .f32)], res := .one true tVec, run := fun x => some (t_i_BetweenVectors x.1 x.2.1 x.2.2.1) }
set_option maxRecDepth 4000 in
theorem ok_i_BetweenVectors : FmOK Tryz.prog 190 m_i_BetweenVectors := @FmOK.made Tryz.prog E_i_BetweenVectors ek_i_BetweenVectors 190 Tryz.f190 noL m_i_BetweenVectors Tryz.func190 (by kernel_rfl) (Loops.none (by kernel_rfl)) fun ds out _ hr => by obtain ⟨a, b, share, ⟨⟩⟩ := ds; exact (ev_i_BetweenVectors a b share).trans ((q_i_BetweenVectors a b share).trans hr)

def E_i_rootTrack_3 : Tabs := (mkE tab [(190, m_i_BetweenVectors)] [])
set_option maxRecDepth 4000 in
theorem ek_i_rootTrack_3 : EnvOK Tryz.prog E_i_rootTrack_3 := (mkE_ok tab_ok mixed (AllF.cons ok_i_BetweenVectors AllF.nil) AllX.nil)
theorem ev_i_rootTrack_3 (p : dRootKey) (q : dRootKey) (share : Nat) : evalF E_i_rootTrack_3 noL Tryz.f189 [.ro true tRootKey, .ro true tRootKey, .ro false (.flt .f32)] (.one true tRootKey) (p, q, share, ()) = g_i_rootTrack_3 p q share := by kernel_rfl
def m_i_rootTrack_3 : FM := { ps := [.ro true tRootKey, .ro true tRootKey, .ro false (.flt .f32)], res := .one true tRootKey, run := fun x => some (t_i_rootTrack_3 x.1 x.2.1 x.2.2.1) }
set_option maxRecDepth 4000 in
theorem ok_i_rootTrack_3 : FmOK Tryz.prog 189 m_i_rootTrack_3 := @FmOK.made Tryz.prog E_i_rootTrack_3 ek_i_rootTrack_3 189 Tryz.f189 noL m_i_rootTrack_3 Tryz.func189 (by kernel_rfl) (Loops.none (by kernel_rfl)) fun ds out _ hr => by obtain ⟨p, q, share, ⟨⟩⟩ := ds; exact (ev_i_rootTrack_3 p q share).trans ((q_i_rootTrack_3 p q share).trans hr)

def E_i_track_i_RootKey_sample : Tabs := (mkE tab [(187, m_i_rootTrack_1), (188, m_i_rootTrack_2), (162, m_i_share), (189, m_i_rootTrack_3)] [])
set_option maxRecDepth 4000 in
theorem ek_i_track_i_RootKey_sample : EnvOK Tryz.prog E_i_track_i_RootKey_sample := (mkE_ok tab_ok mixed (AllF.cons ok_i_rootTrack_1 (AllF.cons ok_i_rootTrack_2 (AllF.cons ok_i_share (AllF.cons ok_i_rootTrack_3 AllF.nil)))) AllX.nil)
def lm_L_i_track_i_RootKey_sample_1 : LM := { mat := [], head := { slots := [(1, .dat false (.slice tRootKey)), (2, .dat false (.int .i64)), (3, .dat false (.int .i64)), (4, .cst (.ptr (.box 0 0))), (8, .cst (.ptr (.box 1 0))), (9, .dat false (.int .i64))], blks := [.box [.dat (.pair (.fn 187) (.pair (.fn 188) (.pair (.fn 189) .unit)))], .box [.dat tRootKey]] }, out := { slots := [(1, .dat false (.slice tRootKey)), (2, .dat false (.int .i64)), (3, .dat false (.int .i64)), (4, .cst (.ptr (.box 0 0))), (8, .cst (.ptr (.box 1 0))), (9, .dat false (.int .i64))], blks := [.box [.dat (.pair (.fn 187) (.pair (.fn 188) (.pair (.fn 189) .unit)))], .box [.dat tRootKey]] }, ex := 0, rets := false, run := iter L_i_track_i_RootKey_sample_1 fuel }
def ll_i_track_i_RootKey_sample : List (Nat × LP) := [(2, .lm lm_L_i_track_i_RootKey_sample_1)]
theorem rd_L_i_track_i_RootKey_sample_1 (rec' : ((List dRootKey) × Int × Int × Int × Unit) × (((Unit × (Unit × (Unit × Unit))) × Unit) × (dRootKey × Unit) × Unit) → Option (((List dRootKey) × Int × Int × Int × Unit) × (((Unit × (Unit × (Unit × Unit))) × Unit) × (dRootKey × Unit) × Unit))) (keys : (List dRootKey)) (kind : Int) (atx : Int) (i : Int) (b0 : (Unit × (Unit × (Unit × Unit)))) (b1 : dRootKey) : round E_i_track_i_RootKey_sample (lookL ll_i_track_i_RootKey_sample) lm_L_i_track_i_RootKey_sample_1 108 (loopAt Tryz.f157 0) rec' ((keys, kind, atx, i, ()), ((b0, ()), (b1, ()), ())) = L_i_track_i_RootKey_sample_1 rec' ((keys, kind, atx, i, ()), ((b0, ()), (b1, ()), ())) := by kernel_rfl
theorem lo_i_track_i_RootKey_sample : Loops E_i_track_i_RootKey_sample (lookL ll_i_track_i_RootKey_sample) Tryz.f157 := Loops.list (by kernel_rfl) (by kernel_rfl) ⟨LoopOK.iter (step := L_i_track_i_RootKey_sample_1) (N := fun _ => fuel) (fun rec' x => by obtain ⟨⟨keys, kind, atx, i, ⟨⟩⟩, ⟨⟨b0, ⟨⟩⟩, ⟨b1, ⟨⟩⟩, ⟨⟩⟩⟩ := x; exact rd_L_i_track_i_RootKey_sample_1 rec' keys kind atx i b0 b1) fun _ => rfl, trivial⟩
theorem ev_i_track_i_RootKey_sample (t : (Unit × (Unit × (Unit × Unit)))) (keys : (List dRootKey)) (kind : Int) (atx : Int) : evalF E_i_track_i_RootKey_sample (lookL ll_i_track_i_RootKey_sample) Tryz.f157 [.ro true (.pair (.fn 187) (.pair (.fn 188) (.pair (.fn 189) .unit))), .ro false (.slice tRootKey), .ro false (.int .i64), .ro false (.int .i64)] (.one true tRootKey) (t, keys, kind, atx, ()) = g_i_track_i_RootKey_sample t keys kind atx := by kernel_rfl
def m_i_track_i_RootKey_sample : FM := { ps := [.ro true (.pair (.fn 187) (.pair (.fn 188) (.pair (.fn 189) .unit))), .ro false (.slice tRootKey), .ro false (.int .i64), .ro false (.int .i64)], res := .one true tRootKey, run := fun x => g_i_track_i_RootKey_sample x.1 x.2.1 x.2.2.1 x.2.2.2.1 }
set_option maxRecDepth 4000 in
theorem ok_i_track_i_RootKey_sample : FmOK Tryz.prog 157 m_i_track_i_RootKey_sample := @FmOK.made Tryz.prog E_i_track_i_RootKey_sample ek_i_track_i_RootKey_sample 157 Tryz.f157 (lookL ll_i_track_i_RootKey_sample) m_i_track_i_RootKey_sample Tryz.func157 (by kernel_rfl) lo_i_track_i_RootKey_sample fun ds out _ hr => by obtain ⟨t, keys, kind, atx, ⟨⟩⟩ := ds; exact (ev_i_track_i_RootKey_sample t keys kind atx).trans hr

def E_i_Clip_root : Tabs := (mkE tab [(155, m_i_rootTrack), (157, m_i_track_i_RootKey_sample)] [])
set_option maxRecDepth 4000 in
theorem ek_i_Clip_root : EnvOK Tryz.prog E_i_Clip_root := (mkE_ok tab_ok mixed (AllF.cons ok_i_rootTrack (AllF.cons ok_i_track_i_RootKey_sample AllF.nil)) AllX.nil)
theorem ev_i_Clip_root (c : dClip) (atx : Int) : evalF E_i_Clip_root noL Tryz.f118 [.rptr tClip, .ro false (.int .i64)] (.one true tVec) (c, atx, ()) = g_i_Clip_root c atx := by kernel_rfl
def m_i_Clip_root : FM := { ps := [.rptr tClip, .ro false (.int .i64)], res := .one true tVec, run := fun x => g_i_Clip_root x.1 x.2.1 }
set_option maxRecDepth 4000 in
theorem ok_i_Clip_root : FmOK Tryz.prog 118 m_i_Clip_root := @FmOK.made Tryz.prog E_i_Clip_root ek_i_Clip_root 118 Tryz.f118 noL m_i_Clip_root Tryz.func118 (by kernel_rfl) (Loops.none (by kernel_rfl)) fun ds out _ hr => by obtain ⟨c, atx, ⟨⟩⟩ := ds; exact (ev_i_Clip_root c atx).trans hr

def E_i_turnTrack_2 : Tabs := (mkE tab [] [])
set_option maxRecDepth 4000 in
theorem ek_i_turnTrack_2 : EnvOK Tryz.prog E_i_turnTrack_2 := (mkE_ok tab_ok mixed AllF.nil AllX.nil)
theorem ev_i_turnTrack_2 (k : dKey) (atx : Int) : evalF E_i_turnTrack_2 noL Tryz.f159 [.ro true tKey, .ro false (.int .i64)] (.one true tKey) (k, atx, ()) = g_i_turnTrack_2 k atx := by kernel_rfl
def m_i_turnTrack_2 : FM := { ps := [.ro true tKey, .ro false (.int .i64)], res := .one true tKey, run := fun x => some (t_i_turnTrack_2 x.1 x.2.1) }
set_option maxRecDepth 4000 in
theorem ok_i_turnTrack_2 : FmOK Tryz.prog 159 m_i_turnTrack_2 := @FmOK.made Tryz.prog E_i_turnTrack_2 ek_i_turnTrack_2 159 Tryz.f159 noL m_i_turnTrack_2 Tryz.func159 (by kernel_rfl) (Loops.none (by kernel_rfl)) fun ds out _ hr => by obtain ⟨k, atx, ⟨⟩⟩ := ds; exact (ev_i_turnTrack_2 k atx).trans ((q_i_turnTrack_2 k atx).trans hr)

def E_i_InnerOfTurns : Tabs := (mkE tab [] [])
set_option maxRecDepth 4000 in
theorem ek_i_InnerOfTurns : EnvOK Tryz.prog E_i_InnerOfTurns := (mkE_ok tab_ok mixed AllF.nil AllX.nil)
theorem ev_i_InnerOfTurns (a : dTurn) (b : dTurn) : evalF E_i_InnerOfTurns noL Tryz.f121 [.ro true tTurn, .ro true tTurn] (.one false (.flt .f32)) (a, b, ()) = g_i_InnerOfTurns a b := by kernel_rfl
def m_i_InnerOfTurns : FM := { ps := [.ro true tTurn, .ro true tTurn], res := .one false (.flt .f32), run := fun x => some (t_i_InnerOfTurns x.1 x.2.1) }
set_option maxRecDepth 4000 in
theorem ok_i_InnerOfTurns : FmOK Tryz.prog 121 m_i_InnerOfTurns := @FmOK.made Tryz.prog E_i_InnerOfTurns ek_i_InnerOfTurns 121 Tryz.f121 noL m_i_InnerOfTurns Tryz.func121 (by kernel_rfl) (Loops.none (by kernel_rfl)) fun ds out _ hr => by obtain ⟨a, b, ⟨⟩⟩ := ds; exact (ev_i_InnerOfTurns a b).trans ((q_i_InnerOfTurns a b).trans hr)

def E_i_Turn_opposite : Tabs := (mkE tab [] [])
set_option maxRecDepth 4000 in
theorem ek_i_Turn_opposite : EnvOK Tryz.prog E_i_Turn_opposite := (mkE_ok tab_ok mixed AllF.nil AllX.nil)
theorem ev_i_Turn_opposite (t : dTurn) : evalF E_i_Turn_opposite noL Tryz.f122 [.ro true tTurn] (.one true tTurn) (t, ()) = g_i_Turn_opposite t := by kernel_rfl
def m_i_Turn_opposite : FM := { ps := [.ro true tTurn], res := .one true tTurn, run := fun x => some (t_i_Turn_opposite x.1) }
set_option maxRecDepth 4000 in
theorem ok_i_Turn_opposite : FmOK Tryz.prog 122 m_i_Turn_opposite := @FmOK.made Tryz.prog E_i_Turn_opposite ek_i_Turn_opposite 122 Tryz.f122 noL m_i_Turn_opposite Tryz.func122 (by kernel_rfl) (Loops.none (by kernel_rfl)) fun ds out _ hr => by obtain ⟨t, ⟨⟩⟩ := ds; exact (ev_i_Turn_opposite t).trans ((q_i_Turn_opposite t).trans hr)

def E_i_between : Tabs := (mkE tab [] [])
set_option maxRecDepth 4000 in
theorem ek_i_between : EnvOK Tryz.prog E_i_between := (mkE_ok tab_ok mixed AllF.nil AllX.nil)
theorem ev_i_between (a : Nat) (b : Nat) (share : Nat) : evalF E_i_between noL Tryz.f191 [.ro false (.flt .f32), .ro false (.flt .f32), .ro false (.flt .f32)] (.one false (.flt .f32)) (a, b, share, ()) = g_i_between a b share := by kernel_rfl
def m_i_between : FM := { ps := [.ro false (.flt .f32), .ro false (.flt .f32), .ro false (.flt .f32)], res := .one false (.flt .f32), run := fun x => some (t_i_between x.1 x.2.1 x.2.2.1) }
set_option maxRecDepth 4000 in
theorem ok_i_between : FmOK Tryz.prog 191 m_i_between := @FmOK.made Tryz.prog E_i_between ek_i_between 191 Tryz.f191 noL m_i_between Tryz.func191 (by kernel_rfl) (Loops.none (by kernel_rfl)) fun ds out _ hr => by obtain ⟨a, b, share, ⟨⟩⟩ := ds; exact (ev_i_between a b share).trans ((q_i_between a b share).trans hr)

def E_i_RootNumber : Tabs := (mkE tab [(184, m_math_Sqrt)] [])
set_option maxRecDepth 4000 in
theorem ek_i_RootNumber : EnvOK Tryz.prog E_i_RootNumber := (mkE_ok tab_ok mixed (AllF.cons ok_math_Sqrt AllF.nil) AllX.nil)
theorem ev_i_RootNumber (xx : Nat) : evalF E_i_RootNumber noL Tryz.f192 [.ro false (.flt .f32)] (.one false (.flt .f32)) (xx, ()) = g_i_RootNumber xx := by kernel_rfl
def m_i_RootNumber : FM := { ps := [.ro false (.flt .f32)], res := .one false (.flt .f32), run := fun x => g_i_RootNumber x.1 }
set_option maxRecDepth 4000 in
theorem ok_i_RootNumber : FmOK Tryz.prog 192 m_i_RootNumber := @FmOK.made Tryz.prog E_i_RootNumber ek_i_RootNumber 192 Tryz.f192 noL m_i_RootNumber Tryz.func192 (by kernel_rfl) (Loops.none (by kernel_rfl)) fun ds out _ hr => by obtain ⟨xx, ⟨⟩⟩ := ds; exact (ev_i_RootNumber xx).trans hr

def E_i_LengthOfTurn : Tabs := (mkE tab [(121, m_i_InnerOfTurns), (192, m_i_RootNumber)] [])
set_option maxRecDepth 4000 in
theorem ek_i_LengthOfTurn : EnvOK Tryz.prog E_i_LengthOfTurn := (mkE_ok tab_ok mixed (AllF.cons ok_i_InnerOfTurns (AllF.cons ok_i_RootNumber AllF.nil)) AllX.nil)
theorem ev_i_LengthOfTurn (t : dTurn) : evalF E_i_LengthOfTurn noL Tryz.f163 [.ro true tTurn] (.one false (.flt .f32)) (t, ()) = g_i_LengthOfTurn t := by kernel_rfl
def m_i_LengthOfTurn : FM := { ps := [.ro true tTurn], res := .one false (.flt .f32), run := fun x => g_i_LengthOfTurn x.1 }
set_option maxRecDepth 4000 in
theorem ok_i_LengthOfTurn : FmOK Tryz.prog 163 m_i_LengthOfTurn := @FmOK.made Tryz.prog E_i_LengthOfTurn ek_i_LengthOfTurn 163 Tryz.f163 noL m_i_LengthOfTurn Tryz.func163 (by kernel_rfl) (Loops.none (by kernel_rfl)) fun ds out _ hr => by obtain ⟨t, ⟨⟩⟩ := ds; exact (ev_i_LengthOfTurn t).trans hr

def E_i_isLength : Tabs := (mkE tab [(152, m_i_IsFinite)] [])
set_option maxRecDepth 4000 in
theorem ek_i_isLength : EnvOK Tryz.prog E_i_isLength := (mkE_ok tab_ok mixed (AllF.cons ok_i_IsFinite AllF.nil) AllX.nil)
theorem ev_i_isLength (n : Nat) : evalF E_i_isLength noL Tryz.f164 [.ro false (.flt .f32)] (.one false .bool) (n, ()) = g_i_isLength n := by kernel_rfl
def m_i_isLength : FM := { ps := [.ro false (.flt .f32)], res := .one false .bool, run := fun x => some (t_i_isLength x.1) }
set_option maxRecDepth 4000 in
theorem ok_i_isLength : FmOK Tryz.prog 164 m_i_isLength := @FmOK.made Tryz.prog E_i_isLength ek_i_isLength 164 Tryz.f164 noL m_i_isLength Tryz.func164 (by kernel_rfl) (Loops.none (by kernel_rfl)) fun ds out _ hr => by obtain ⟨n, ⟨⟩⟩ := ds; exact (ev_i_isLength n).trans ((q_i_isLength n).trans hr)

def E_i_NoTurn : Tabs := (mkE tab [] [])
set_option maxRecDepth 4000 in
theorem ek_i_NoTurn : EnvOK Tryz.prog E_i_NoTurn := (mkE_ok tab_ok mixed AllF.nil AllX.nil)
theorem ev_i_NoTurn  : evalF E_i_NoTurn noL Tryz.f165 [] (.one true tTurn) (()) = g_i_NoTurn  := by kernel_rfl
def m_i_NoTurn : FM := { ps := [], res := .one true tTurn, run := fun x => some (t_i_NoTurn ) }
set_option maxRecDepth 4000 in
theorem ok_i_NoTurn : FmOK Tryz.prog 165 m_i_NoTurn := @FmOK.made Tryz.prog E_i_NoTurn ek_i_NoTurn 165 Tryz.f165 noL m_i_NoTurn Tryz.func165 (by kernel_rfl) (Loops.none (by kernel_rfl)) fun ds out _ hr => by obtain ⟨⟨⟩⟩ := ds; exact (ev_i_NoTurn ).trans ((q_i_NoTurn ).trans hr)

def E_i_MendTurn : Tabs := (mkE tab [(163, m_i_LengthOfTurn), (164, m_i_isLength), (165, m_i_NoTurn)] [])
set_option maxRecDepth 4000 in
theorem ek_i_MendTurn : EnvOK Tryz.prog E_i_MendTurn := (mkE_ok tab_ok mixed (AllF.cons ok_i_LengthOfTurn (AllF.cons ok_i_isLength (AllF.cons ok_i_NoTurn AllF.nil))) AllX.nil)
theorem ev_i_MendTurn (t : dTurn) : evalF E_i_MendTurn noL Tryz.f123 [.ro true tTurn] (.one true tTurn) (t, ()) = g_i_MendTurn t := by kernel_rfl
def m_i_MendTurn : FM := { ps := [.ro true tTurn], res := .one true tTurn, run := fun x => g_i_MendTurn x.1 }
set_option maxRecDepth 4000 in
theorem ok_i_MendTurn : FmOK Tryz.prog 123 m_i_MendTurn := @FmOK.made Tryz.prog E_i_MendTurn ek_i_MendTurn 123 Tryz.f123 noL m_i_MendTurn Tryz.func123 (by kernel_rfl) (Loops.none (by kernel_rfl)) fun ds out _ hr => by obtain ⟨t, ⟨⟩⟩ := ds; exact (ev_i_MendTurn t).trans hr

def E_i_NearTurn : Tabs := (mkE tab [(121, m_i_InnerOfTurns), (122, m_i_Turn_opposite), (191, m_i_between), (123, m_i_MendTurn)] [])
set_option maxRecDepth 4000 in
theorem ek_i_NearTurn : EnvOK Tryz.prog E_i_NearTurn := (mkE_ok tab_ok mixed (AllF.cons ok_i_InnerOfTurns (AllF.cons ok_i_Turn_opposite (AllF.cons ok_i_between (AllF.cons ok_i_MendTurn AllF.nil)))) AllX.nil)
theorem ev_i_NearTurn (a : dTurn) (b : dTurn) (share : Nat) : evalF E_i_NearTurn noL Tryz.f161 [.ro true tTurn, .ro true tTurn, .ro false (.flt .f32)] (.one true tTurn) (a, b, share, ()) = g_i_NearTurn a b share := by kernel_rfl
def m_i_NearTurn : FM := { ps := [.ro true tTurn, .ro true tTurn, .ro false (.flt .f32)], res := .one true tTurn, run := fun x => g_i_NearTurn x.1 x.2.1 x.2.2.1 }
set_option maxRecDepth 4000 in
theorem ok_i_NearTurn : FmOK Tryz.prog 161 m_i_NearTurn := @FmOK.made Tryz.prog E_i_NearTurn ek_i_NearTurn 161 Tryz.f161 noL m_i_NearTurn Tryz.func161 (by kernel_rfl) (Loops.none (by kernel_rfl)) fun ds out _ hr => by obtain ⟨a, b, share, ⟨⟩⟩ := ds; exact (ev_i_NearTurn a b share).trans hr

def E_i_turnTrack_3 : Tabs := (mkE tab [(161, m_i_NearTurn)] [])
set_option maxRecDepth 4000 in
theorem ek_i_turnTrack_3 : EnvOK Tryz.prog E_i_turnTrack_3 := (mkE_ok tab_ok mixed (AllF.cons ok_i_NearTurn AllF.nil) AllX.nil)
theorem ev_i_turnTrack_3 (p : dKey) (q : dKey) (share : Nat) : evalF E_i_turnTrack_3 noL Tryz.f160 [.ro true tKey, .ro true tKey, .ro false (.flt .f32)] (.one true tKey) (p, q, share, ()) = g_i_turnTrack_3 p q share := by kernel_rfl
def m_i_turnTrack_3 : FM := { ps := [.ro true tKey, .ro true tKey, .ro false (.flt .f32)], res := .one true tKey, run := fun x => g_i_turnTrack_3 x.1 x.2.1 x.2.2.1 }
set_option maxRecDepth 4000 in
theorem ok_i_turnTrack_3 : FmOK Tryz.prog 160 m_i_turnTrack_3 := @FmOK.made Tryz.prog E_i_turnTrack_3 ek_i_turnTrack_3 160 Tryz.f160 noL m_i_turnTrack_3 Tryz.func160 (by kernel_rfl) (Loops.none (by kernel_rfl)) fun ds out _ hr => by obtain ⟨p, q, share, ⟨⟩⟩ := ds; exact (ev_i_turnTrack_3 p q share).trans hr

def E_i_track_i_Key_sample : Tabs := (mkE tab [(158, m_i_turnTrack_1), (159, m_i_turnTrack_2), (162, m_i_share), (160, m_i_turnTrack_3)] [])
set_option maxRecDepth 4000 in
theorem ek_i_track_i_Key_sample : EnvOK Tryz.prog E_i_track_i_Key_sample := (mkE_ok tab_ok mixed (AllF.cons ok_i_turnTrack_1 (AllF.cons ok_i_turnTrack_2 (AllF.cons ok_i_share (AllF.cons ok_i_turnTrack_3 AllF.nil)))) AllX.nil)
def lm_L_i_track_i_Key_sample_1 : LM := { mat := [], head := { slots := [(1, .dat false (.slice tKey)), (2, .dat false (.int .i64)), (3, .dat false (.int .i64)), (4, .cst (.ptr (.box 0 0))), (8, .cst (.ptr (.box 1 0))), (9, .dat false (.int .i64))], blks := [.box [.dat (.pair (.fn 158) (.pair (.fn 159) (.pair (.fn 160) .unit)))], .box [.dat tKey]] }, out := { slots := [(1, .dat false (.slice tKey)), (2, .dat false (.int .i64)), (3, .dat false (.int .i64)), (4, .cst (.ptr (.box 0 0))), (8, .cst (.ptr (.box 1 0))), (9, .dat false (.int .i64))], blks := [.box [.dat (.pair (.fn 158) (.pair (.fn 159) (.pair (.fn 160) .unit)))], .box [.dat tKey]] }, ex := 0, rets := false, run := iter L_i_track_i_Key_sample_1 fuel }
def ll_i_track_i_Key_sample : List (Nat × LP) := [(2, .lm lm_L_i_track_i_Key_sample_1)]
theorem rd_L_i_track_i_Key_sample_1 (rec' : ((List dKey) × Int × Int × Int × Unit) × (((Unit × (Unit × (Unit × Unit))) × Unit) × (dKey × Unit) × Unit) → Option (((List dKey) × Int × Int × Int × Unit) × (((Unit × (Unit × (Unit × Unit))) × Unit) × (dKey × Unit) × Unit))) (keys : (List dKey)) (kind : Int) (atx : Int) (i : Int) (b0 : (Unit × (Unit × (Unit × Unit)))) (b1 : dKey) : round E_i_track_i_Key_sample (lookL ll_i_track_i_Key_sample) lm_L_i_track_i_Key_sample_1 108 (loopAt Tryz.f120 0) rec' ((keys, kind, atx, i, ()), ((b0, ()), (b1, ()), ())) = L_i_track_i_Key_sample_1 rec' ((keys, kind, atx, i, ()), ((b0, ()), (b1, ()), ())) := by kernel_rfl
theorem lo_i_track_i_Key_sample : Loops E_i_track_i_Key_sample (lookL ll_i_track_i_Key_sample) Tryz.f120 := Loops.list (by kernel_rfl) (by kernel_rfl) ⟨LoopOK.iter (step := L_i_track_i_Key_sample_1) (N := fun _ => fuel) (fun rec' x => by obtain ⟨⟨keys, kind, atx, i, ⟨⟩⟩, ⟨⟨b0, ⟨⟩⟩, ⟨b1, ⟨⟩⟩, ⟨⟩⟩⟩ := x; exact rd_L_i_track_i_Key_sample_1 rec' keys kind atx i b0 b1) fun _ => rfl, trivial⟩
theorem ev_i_track_i_Key_sample (t : (Unit × (Unit × (Unit × Unit)))) (keys : (List dKey)) (kind : Int) (atx : Int) : evalF E_i_track_i_Key_sample (lookL ll_i_track_i_Key_sample) Tryz.f120 [.ro true (.pair (.fn 158) (.pair (.fn 159) (.pair (.fn 160) .unit))), .ro false (.slice tKey), .ro false (.int .i64), .ro false (.int .i64)] (.one true tKey) (t, keys, kind, atx, ()) = g_i_track_i_Key_sample t keys kind atx := by kernel_rfl
def m_i_track_i_Key_sample : FM := { ps := [.ro true (.pair (.fn 158) (.pair (.fn 159) (.pair (.fn 160) .unit))), .ro false (.slice tKey), .ro false (.int .i64), .ro false (.int .i64)], res := .one true tKey, run := fun x => g_i_track_i_Key_sample x.1 x.2.1 x.2.2.1 x.2.2.2.1 }
set_option maxRecDepth 4000 in
theorem ok_i_track_i_Key_sample : FmOK Tryz.prog 120 m_i_track_i_Key_sample := @FmOK.made Tryz.prog E_i_track_i_Key_sample ek_i_track_i_Key_sample 120 Tryz.f120 (lookL ll_i_track_i_Key_sample) m_i_track_i_Key_sample Tryz.func120 (by kernel_rfl) lo_i_track_i_Key_sample fun ds out _ hr => by obtain ⟨t, keys, kind, atx, ⟨⟩⟩ := ds; exact (ev_i_track_i_Key_sample t keys kind atx).trans hr

def E_i_Clip_sample : Tabs := (mkE tab [(118, m_i_Clip_root), (119, m_i_turnTrack), (120, m_i_track_i_Key_sample)] [])
set_option maxRecDepth 4000 in
theorem ek_i_Clip_sample : EnvOK Tryz.prog E_i_Clip_sample := (mkE_ok tab_ok mixed (AllF.cons ok_i_Clip_root (AllF.cons ok_i_turnTrack (AllF.cons ok_i_track_i_Key_sample AllF.nil))) AllX.nil)
def lm_L_i_Clip_sample_1 : LM := { mat := [], head := { slots := [(0, .dat false (.ref tClip)), (1, .dat false (.int .i64)), (4, .cst (.ptr (.box 0 0))), (5, .cst (.ptr (.box 2 0))), (21, .dat false (.slice (.slice tKey))), (22, .dat false (.int .i64)), (23, .dat false (.int .i64))], blks := [.box [.dat tVec, .cst (.sl .nil)], .row false tTurn, .box [.dat tVec, .cst (.sl (.row 1))]] }, out := { slots := [(4, .cst (.ptr (.box 0 0))), (5, .cst (.ptr (.box 2 0)))], blks := [.box [.dat tVec, .cst (.sl .nil)], .row false tTurn, .box [.dat tVec, .cst (.sl (.row 1))]] }, ex := 0, rets := false, run := iter L_i_Clip_sample_1 fuel }
def ll_i_Clip_sample : List (Nat × LP) := [(3, .lm lm_L_i_Clip_sample_1)]
theorem rd_L_i_Clip_sample_1 (rec' : (dClip × Int × (List (List dKey)) × Int × Int × Unit) × ((dVec × Unit) × (List dTurn) × (dVec × Unit) × Unit) → Option ((Unit) × ((dVec × Unit) × (List dTurn) × (dVec × Unit) × Unit))) (c : dClip) (atx : Int) (t21 : (List (List dKey))) (t22 : Int) (t23 : Int) (b0 : dVec) (r1 : (List dTurn)) (b2 : dVec) : round E_i_Clip_sample (lookL ll_i_Clip_sample) lm_L_i_Clip_sample_1 43 (loopAt Tryz.f68 0) rec' ((c, atx, t21, t22, t23, ()), ((b0, ()), r1, (b2, ()), ())) = L_i_Clip_sample_1 rec' ((c, atx, t21, t22, t23, ()), ((b0, ()), r1, (b2, ()), ())) := by kernel_rfl
theorem lo_i_Clip_sample : Loops E_i_Clip_sample (lookL ll_i_Clip_sample) Tryz.f68 := Loops.list (by kernel_rfl) (by kernel_rfl) ⟨LoopOK.iter (step := L_i_Clip_sample_1) (N := fun _ => fuel) (fun rec' x => by obtain ⟨⟨c, atx, t21, t22, t23, ⟨⟩⟩, ⟨⟨b0, ⟨⟩⟩, r1, ⟨b2, ⟨⟩⟩, ⟨⟩⟩⟩ := x; exact rd_L_i_Clip_sample_1 rec' c atx t21 t22 t23 b0 r1 b2) fun _ => rfl, trivial⟩
theorem ev_i_Clip_sample (c : dClip) (atx : Int) : evalF E_i_Clip_sample (lookL ll_i_Clip_sample) Tryz.f68 [.rptr tClip, .ro false (.int .i64)] (.one true tPose) (c, atx, ()) = g_i_Clip_sample c atx := by kernel_rfl
def m_i_Clip_sample : FM := { ps := [.rptr tClip, .ro false (.int .i64)], res := .one true tPose, run := fun x => g_i_Clip_sample x.1 x.2.1 }
set_option maxRecDepth 4000 in
theorem ok_i_Clip_sample : FmOK Tryz.prog 68 m_i_Clip_sample := @FmOK.made Tryz.prog E_i_Clip_sample ek_i_Clip_sample 68 Tryz.f68 (lookL ll_i_Clip_sample) m_i_Clip_sample Tryz.func68 (by kernel_rfl) lo_i_Clip_sample fun ds out _ hr => by obtain ⟨c, atx, ⟨⟩⟩ := ds; exact (ev_i_Clip_sample c atx).trans hr

def E_i_mixTurns : Tabs := (mkE tab [(121, m_i_InnerOfTurns), (122, m_i_Turn_opposite), (123, m_i_MendTurn)] [])
set_option maxRecDepth 4000 in
theorem ek_i_mixTurns : EnvOK Tryz.prog E_i_mixTurns := (mkE_ok tab_ok mixed (AllF.cons ok_i_InnerOfTurns (AllF.cons ok_i_Turn_opposite (AllF.cons ok_i_MendTurn AllF.nil))) AllX.nil)
def lm_L_i_mixTurns_1 : LM := { mat := [], head := { slots := [(0, .dat false (.slice tTurn)), (1, .dat false (.slice (.flt .f32))), (4, .cst (.ptr (.box 0 0))), (5, .cst (.ptr (.box 1 0))), (9, .dat false (.slice tTurn)), (10, .dat false (.int .i64)), (11, .dat false (.int .i64))], blks := [.box [.dat tTurn], .box [.dat tTurn]] }, out := { slots := [(4, .cst (.ptr (.box 0 0))), (5, .cst (.ptr (.box 1 0)))], blks := [.box [.dat tTurn], .box [.dat tTurn]] }, ex := 0, rets := false, run := iter L_i_mixTurns_1 fuel }
def ll_i_mixTurns : List (Nat × LP) := [(3, .lm lm_L_i_mixTurns_1)]
theorem rd_L_i_mixTurns_1 (rec' : ((List dTurn) × (List Nat) × (List dTurn) × Int × Int × Unit) × ((dTurn × Unit) × (dTurn × Unit) × Unit) → Option ((Unit) × ((dTurn × Unit) × (dTurn × Unit) × Unit))) (list : (List dTurn)) (weights : (List Nat)) (t9 : (List dTurn)) (t10 : Int) (t11 : Int) (b0 : dTurn) (b1 : dTurn) : round E_i_mixTurns (lookL ll_i_mixTurns) lm_L_i_mixTurns_1 60 (loopAt Tryz.f69 0) rec' ((list, weights, t9, t10, t11, ()), ((b0, ()), (b1, ()), ())) = L_i_mixTurns_1 rec' ((list, weights, t9, t10, t11, ()), ((b0, ()), (b1, ()), ())) := by kernel_rfl
theorem lo_i_mixTurns : Loops E_i_mixTurns (lookL ll_i_mixTurns) Tryz.f69 := Loops.list (by kernel_rfl) (by kernel_rfl) ⟨LoopOK.iter (step := L_i_mixTurns_1) (N := fun _ => fuel) (fun rec' x => by obtain ⟨⟨list, weights, t9, t10, t11, ⟨⟩⟩, ⟨⟨b0, ⟨⟩⟩, ⟨b1, ⟨⟩⟩, ⟨⟩⟩⟩ := x; exact rd_L_i_mixTurns_1 rec' list weights t9 t10 t11 b0 b1) fun _ => rfl, trivial⟩
theorem ev_i_mixTurns (list : (List dTurn)) (weights : (List Nat)) : evalF E_i_mixTurns (lookL ll_i_mixTurns) Tryz.f69 [.ro false (.slice tTurn), .ro false (.slice (.flt .f32))] (.one true tTurn) (list, weights, ()) = g_i_mixTurns list weights := by kernel_rfl
def m_i_mixTurns : FM := { ps := [.ro false (.slice tTurn), .ro false (.slice (.flt .f32))], res := .one true tTurn, run := fun x => g_i_mixTurns x.1 x.2.1 }
set_option maxRecDepth 4000 in
theorem ok_i_mixTurns : FmOK Tryz.prog 69 m_i_mixTurns := @FmOK.made Tryz.prog E_i_mixTurns ek_i_mixTurns 69 Tryz.f69 (lookL ll_i_mixTurns) m_i_mixTurns Tryz.func69 (by kernel_rfl) lo_i_mixTurns fun ds out _ hr => by obtain ⟨list, weights, ⟨⟩⟩ := ds; exact (ev_i_mixTurns list weights).trans hr

def E_i_BlendClips : Tabs := (mkE tab [(66, m_i_WeightsAt), (67, m_i_areClips), (68, m_i_Clip_sample), (69, m_i_mixTurns), (71, m_i_ScaleVector), (70, m_i_AddVectors)] [])
set_option maxRecDepth 4000 in
theorem ek_i_BlendClips : EnvOK Tryz.prog E_i_BlendClips := (mkE_ok tab_ok mixed (AllF.cons ok_i_WeightsAt (AllF.cons ok_i_areClips (AllF.cons ok_i_Clip_sample (AllF.cons ok_i_mixTurns (AllF.cons ok_i_ScaleVector (AllF.cons ok_i_AddVectors AllF.nil)))))) AllX.nil)
def lm_L_i_BlendClips_4 : LM := { mat := [], head := { slots := [(8, .cst (.ptr (.box 0 0))), (10, .cst (.sl (.row 1))), (14, .cst (.ptr (.box 3 0))), (110, .cst (.sl (.row 2))), (111, .dat false (.int .i64)), (112, .dat false (.int .i64))], blks := [.box [.dat tVec, .cst (.sl .nil)], .row false (.flt .f32), .row false tPose, .box [.dat tVec, .cst (.sl (.row 4))], .row false tTurn] }, out := { slots := [(8, .cst (.ptr (.box 0 0))), (14, .cst (.ptr (.box 3 0)))], blks := [.box [.dat tVec, .cst (.sl .nil)], .dead, .dead, .box [.dat tVec, .cst (.sl (.row 4))], .row false tTurn] }, ex := 6, rets := false, run := iter L_i_BlendClips_4 fuel }
def lm_L_i_BlendClips_3 : LM := { mat := [], head := { slots := [(8, .cst (.ptr (.box 0 0))), (10, .cst (.sl (.row 1))), (12, .cst (.sl (.row 2))), (14, .cst (.ptr (.box 3 0))), (15, .dat false (.int .i64)), (16, .cst (.sl (.row 5))), (78, .dat false (.int .i64)), (79, .dat false (.int .i64)), (85, .cst (.sl (.row 2))), (86, .dat false (.int .i64)), (87, .dat false (.int .i64))], blks := [.box [.dat tVec, .cst (.sl .nil)], .row false (.flt .f32), .row false tPose, .box [.dat tVec, .cst (.sl (.row 4))], .row false tTurn, .row false tTurn] }, out := { slots := [(8, .cst (.ptr (.box 0 0))), (10, .cst (.sl (.row 1))), (12, .cst (.sl (.row 2))), (14, .cst (.ptr (.box 3 0))), (16, .cst (.sl (.row 5))), (78, .dat false (.int .i64)), (79, .dat false (.int .i64))], blks := [.box [.dat tVec, .cst (.sl .nil)], .row false (.flt .f32), .row false tPose, .box [.dat tVec, .cst (.sl (.row 4))], .row false tTurn, .row false tTurn] }, ex := 4, rets := false, run := iter L_i_BlendClips_3 fuel }
def lm_L_i_BlendClips_2 : LM := { mat := [.cell 3 3 tTurn], head := { slots := [(8, .cst (.ptr (.box 0 0))), (10, .cst (.sl (.row 1))), (12, .cst (.sl (.row 2))), (14, .cst (.ptr (.box 3 0))), (78, .dat false (.int .i64)), (79, .dat false (.int .i64))], blks := [.box [.dat tVec, .cst (.sl .nil)], .row false (.flt .f32), .row false tPose, .box [.dat tVec, .cst (.sl (.row 4))], .row false tTurn] }, out := { slots := [(8, .cst (.ptr (.box 0 0))), (10, .cst (.sl (.row 1))), (12, .cst (.sl (.row 2))), (14, .cst (.ptr (.box 3 0)))], blks := [.box [.dat tVec, .cst (.sl .nil)], .row false (.flt .f32), .row false tPose, .box [.dat tVec, .cst (.sl (.row 4))], .row false tTurn] }, ex := 2, rets := false, run := iter L_i_BlendClips_2 fuel }
def lm_L_i_BlendClips_1 : LM := { mat := [], head := { slots := [(0, .dat false (.slice tClip)), (3, .dat false (.int .i64)), (8, .cst (.ptr (.box 0 0))), (10, .cst (.sl (.row 1))), (12, .cst (.sl (.row 2))), (54, .dat false (.int .i64)), (55, .dat false (.int .i64))], blks := [.box [.dat tVec, .cst (.sl .nil)], .row false (.flt .f32), .row false tPose] }, out := { slots := [(0, .dat false (.slice tClip)), (8, .cst (.ptr (.box 0 0))), (10, .cst (.sl (.row 1))), (12, .cst (.sl (.row 2)))], blks := [.box [.dat tVec, .cst (.sl .nil)], .row false (.flt .f32), .row false tPose] }, ex := 0, rets := false, run := iter L_i_BlendClips_1 fuel }
def ll_i_BlendClips : List (Nat × LP) := [(6, .lm lm_L_i_BlendClips_1), (12, .lm lm_L_i_BlendClips_2), (16, .lm lm_L_i_BlendClips_3), (23, .lm lm_L_i_BlendClips_4)]
theorem rd_L_i_BlendClips_4 (rec' : (Int × Int × Unit) × ((dVec × Unit) × (List Nat) × (List dPose) × (dVec × Unit) × (List dTurn) × Unit) → Option ((Unit) × ((dVec × Unit) × (dVec × Unit) × (List dTurn) × Unit))) (t111 : Int) (t112 : Int) (b0 : dVec) (r1 : (List Nat)) (r2 : (List dPose)) (b3 : dVec) (r4 : (List dTurn)) : round E_i_BlendClips (lookL ll_i_BlendClips) lm_L_i_BlendClips_4 130 (loopAt Tryz.f20 3) rec' ((t111, t112, ()), ((b0, ()), r1, r2, (b3, ()), r4, ())) = L_i_BlendClips_4 rec' ((t111, t112, ()), ((b0, ()), r1, r2, (b3, ()), r4, ())) := by kernel_rfl
theorem rd_L_i_BlendClips_3 (rec' : (Int × Int × Int × Int × Int × Unit) × ((dVec × Unit) × (List Nat) × (List dPose) × (dVec × Unit) × (List dTurn) × (List dTurn) × Unit) → Option ((Int × Int × Unit) × ((dVec × Unit) × (List Nat) × (List dPose) × (dVec × Unit) × (List dTurn) × (List dTurn) × Unit))) (b : Int) (t78 : Int) (t79 : Int) (t86 : Int) (t87 : Int) (b0 : dVec) (r1 : (List Nat)) (r2 : (List dPose)) (b3 : dVec) (r4 : (List dTurn)) (r5 : (List dTurn)) : round E_i_BlendClips (lookL ll_i_BlendClips) lm_L_i_BlendClips_3 130 (loopAt Tryz.f20 2) rec' ((b, t78, t79, t86, t87, ()), ((b0, ()), r1, r2, (b3, ()), r4, r5, ())) = L_i_BlendClips_3 rec' ((b, t78, t79, t86, t87, ()), ((b0, ()), r1, r2, (b3, ()), r4, r5, ())) := by kernel_rfl
theorem rd_L_i_BlendClips_2 (rec' : (Int × Int × Unit) × ((dVec × Unit) × (List Nat) × (List dPose) × (dVec × Unit) × (List dTurn) × Unit) → Option ((Unit) × ((dVec × Unit) × (List Nat) × (List dPose) × (dVec × Unit) × (List dTurn) × Unit))) (t78 : Int) (t79 : Int) (b0 : dVec) (r1 : (List Nat)) (r2 : (List dPose)) (b3 : dVec) (r4 : (List dTurn)) : round E_i_BlendClips (lookL ll_i_BlendClips) lm_L_i_BlendClips_2 130 (loopAt Tryz.f20 1) rec' ((t78, t79, ()), ((b0, ()), r1, r2, (b3, ()), r4, ())) = L_i_BlendClips_2 rec' ((t78, t79, ()), ((b0, ()), r1, r2, (b3, ()), r4, ())) := by kernel_rfl
theorem rd_L_i_BlendClips_1 (rec' : ((List dClip) × Int × Int × Int × Unit) × ((dVec × Unit) × (List Nat) × (List dPose) × Unit) → Option (((List dClip) × Unit) × ((dVec × Unit) × (List Nat) × (List dPose) × Unit))) (clips : (List dClip)) (atx : Int) (t54 : Int) (t55 : Int) (b0 : dVec) (r1 : (List Nat)) (r2 : (List dPose)) : round E_i_BlendClips (lookL ll_i_BlendClips) lm_L_i_BlendClips_1 130 (loopAt Tryz.f20 0) rec' ((clips, atx, t54, t55, ()), ((b0, ()), r1, r2, ())) = L_i_BlendClips_1 rec' ((clips, atx, t54, t55, ()), ((b0, ()), r1, r2, ())) := by kernel_rfl
theorem lo_i_BlendClips : Loops E_i_BlendClips (lookL ll_i_BlendClips) Tryz.f20 := Loops.list (by kernel_rfl) (by kernel_rfl) ⟨LoopOK.iter (step := L_i_BlendClips_1) (N := fun _ => fuel) (fun rec' x => by obtain ⟨⟨clips, atx, t54, t55, ⟨⟩⟩, ⟨⟨b0, ⟨⟩⟩, r1, r2, ⟨⟩⟩⟩ := x; exact rd_L_i_BlendClips_1 rec' clips atx t54 t55 b0 r1 r2) fun _ => rfl, LoopOK.iter (step := L_i_BlendClips_2) (N := fun _ => fuel) (fun rec' x => by obtain ⟨⟨t78, t79, ⟨⟩⟩, ⟨⟨b0, ⟨⟩⟩, r1, r2, ⟨b3, ⟨⟩⟩, r4, ⟨⟩⟩⟩ := x; exact rd_L_i_BlendClips_2 rec' t78 t79 b0 r1 r2 b3 r4) fun _ => rfl, LoopOK.iter (step := L_i_BlendClips_3) (N := fun _ => fuel) (fun rec' x => by obtain ⟨⟨b, t78, t79, t86, t87, ⟨⟩⟩, ⟨⟨b0, ⟨⟩⟩, r1, r2, ⟨b3, ⟨⟩⟩, r4, r5, ⟨⟩⟩⟩ := x; exact rd_L_i_BlendClips_3 rec' b t78 t79 t86 t87 b0 r1 r2 b3 r4 r5) fun _ => rfl, LoopOK.iter (step := L_i_BlendClips_4) (N := fun _ => fuel) (fun rec' x => by obtain ⟨⟨t111, t112, ⟨⟩⟩, ⟨⟨b0, ⟨⟩⟩, r1, r2, ⟨b3, ⟨⟩⟩, r4, ⟨⟩⟩⟩ := x; exact rd_L_i_BlendClips_4 rec' t111 t112 b0 r1 r2 b3 r4) fun _ => rfl, trivial⟩
theorem ev_i_BlendClips (clips : (List dClip)) (points : (List Nat)) (xx : Nat) (atx : Int) : evalF E_i_BlendClips (lookL ll_i_BlendClips) Tryz.f20 [.ro false (.slice tClip), .ro false (.slice (.flt .f32)), .ro false (.flt .f32), .ro false (.int .i64)] (.tup [(true, tPose), (false, .bool)]) (clips, points, xx, atx, ()) = g_i_BlendClips clips points xx atx := by kernel_rfl
def m_i_BlendClips : FM := { ps := [.ro false (.slice tClip), .ro false (.slice (.flt .f32)), .ro false (.flt .f32), .ro false (.int .i64)], res := .tup [(true, tPose), (false, .bool)], run := fun x => g_i_BlendClips x.1 x.2.1 x.2.2.1 x.2.2.2.1 }
set_option maxRecDepth 4000 in
theorem ok_i_BlendClips : FmOK Tryz.prog 20 m_i_BlendClips := @FmOK.made Tryz.prog E_i_BlendClips ek_i_BlendClips 20 Tryz.f20 (lookL ll_i_BlendClips) m_i_BlendClips Tryz.func20 (by kernel_rfl) lo_i_BlendClips fun ds out _ hr => by obtain ⟨clips, points, xx, atx, ⟨⟩⟩ := ds; exact (ev_i_BlendClips clips points xx atx).trans hr

def E_w_sameFloat : Tabs := (mkE tab [] [])
set_option maxRecDepth 4000 in
theorem ek_w_sameFloat : EnvOK Tryz.prog E_w_sameFloat := (mkE_ok tab_ok mixed AllF.nil AllX.nil)
theorem ev_w_sameFloat (a : Nat) (b : Nat) : evalF E_w_sameFloat noL Tryz.f55 [.ro false (.flt .f64), .ro false (.flt .f64)] (.one false .bool) (a, b, ()) = g_w_sameFloat a b := by kernel_rfl
def m_w_sameFloat : FM := { ps := [.ro false (.flt .f64), .ro false (.flt .f64)], res := .one false .bool, run := fun x => some (t_w_sameFloat x.1 x.2.1) }
set_option maxRecDepth 4000 in
theorem ok_w_sameFloat : FmOK Tryz.prog 55 m_w_sameFloat := @FmOK.made Tryz.prog E_w_sameFloat ek_w_sameFloat 55 Tryz.f55 noL m_w_sameFloat Tryz.func55 (by kernel_rfl) (Loops.none (by kernel_rfl)) fun ds out _ hr => by obtain ⟨a, b, ⟨⟩⟩ := ds; exact (ev_w_sameFloat a b).trans ((q_w_sameFloat a b).trans hr)

def E_w_eqVector : Tabs := (mkE tab [(55, m_w_sameFloat)] [])
set_option maxRecDepth 4000 in
theorem ek_w_eqVector : EnvOK Tryz.prog E_w_eqVector := (mkE_ok tab_ok mixed (AllF.cons ok_w_sameFloat AllF.nil) AllX.nil)
theorem ev_w_eqVector (a : dVec) (b : dVec) : evalF E_w_eqVector noL Tryz.f72 [.ro true tVec, .ro true tVec] (.one false .bool) (a, b, ()) = g_w_eqVector a b := by kernel_rfl
def m_w_eqVector : FM := { ps := [.ro true tVec, .ro true tVec], res := .one false .bool, run := fun x => some (t_w_eqVector x.1 x.2.1) }
set_option maxRecDepth 4000 in
theorem ok_w_eqVector : FmOK Tryz.prog 72 m_w_eqVector := @FmOK.made Tryz.prog E_w_eqVector ek_w_eqVector 72 Tryz.f72 noL m_w_eqVector Tryz.func72 (by kernel_rfl) (Loops.none (by kernel_rfl)) fun ds out _ hr => by obtain ⟨a, b, ⟨⟩⟩ := ds; exact (ev_w_eqVector a b).trans ((q_w_eqVector a b).trans hr)

def E_w_eqTurn : Tabs := (mkE tab [(55, m_w_sameFloat)] [])
set_option maxRecDepth 4000 in
theorem ek_w_eqTurn : EnvOK Tryz.prog E_w_eqTurn := (mkE_ok tab_ok mixed (AllF.cons ok_w_sameFloat AllF.nil) AllX.nil)
theorem ev_w_eqTurn (a : dTurn) (b : dTurn) : evalF E_w_eqTurn noL Tryz.f124 [.ro true tTurn, .ro true tTurn] (.one false .bool) (a, b, ()) = g_w_eqTurn a b := by kernel_rfl
def m_w_eqTurn : FM := { ps := [.ro true tTurn, .ro true tTurn], res := .one false .bool, run := fun x => some (t_w_eqTurn x.1 x.2.1) }
set_option maxRecDepth 4000 in
theorem ok_w_eqTurn : FmOK Tryz.prog 124 m_w_eqTurn := @FmOK.made Tryz.prog E_w_eqTurn ek_w_eqTurn 124 Tryz.f124 noL m_w_eqTurn Tryz.func124 (by kernel_rfl) (Loops.none (by kernel_rfl)) fun ds out _ hr => by obtain ⟨a, b, ⟨⟩⟩ := ds; exact (ev_w_eqTurn a b).trans ((q_w_eqTurn a b).trans hr)

def E_w_eqTurnS : Tabs := (mkE tab [(124, m_w_eqTurn)] [])
set_option maxRecDepth 4000 in
theorem ek_w_eqTurnS : EnvOK Tryz.prog E_w_eqTurnS := (mkE_ok tab_ok mixed (AllF.cons ok_w_eqTurn AllF.nil) AllX.nil)
def lm_L_w_eqTurnS_1 : LM := { mat := [], head := { slots := [(0, .dat false (.slice tTurn)), (1, .dat false (.slice tTurn)), (4, .dat false .bool), (5, .dat false (.int .i64))], blks := [] }, out := { slots := [(4, .dat false .bool)], blks := [] }, ex := 0, rets := true, run := iter L_w_eqTurnS_1 fuel }
def ll_w_eqTurnS : List (Nat × LP) := [(4, .lm lm_L_w_eqTurnS_1)]
theorem rd_L_w_eqTurnS_1 (rec' : ((List dTurn) × (List dTurn) × Bool × Int × Unit) × (Unit) → Option (Bool × ((Bool × Unit) × (Unit)))) (a : (List dTurn)) (b : (List dTurn)) (t4 : Bool) (i : Int) : round E_w_eqTurnS (lookL ll_w_eqTurnS) lm_L_w_eqTurnS_1 27 (loopAt Tryz.f73 0) rec' ((a, b, t4, i, ()), (())) = L_w_eqTurnS_1 rec' ((a, b, t4, i, ()), (())) := by kernel_rfl
theorem lo_w_eqTurnS : Loops E_w_eqTurnS (lookL ll_w_eqTurnS) Tryz.f73 := Loops.list (by kernel_rfl) (by kernel_rfl) ⟨LoopOK.iter (step := L_w_eqTurnS_1) (N := fun _ => fuel) (fun rec' x => by obtain ⟨⟨a, b, t4, i, ⟨⟩⟩, ⟨⟨⟩⟩⟩ := x; exact rd_L_w_eqTurnS_1 rec' a b t4 i) fun _ => rfl, trivial⟩
theorem ev_w_eqTurnS (a : (List dTurn)) (b : (List dTurn)) : evalF E_w_eqTurnS (lookL ll_w_eqTurnS) Tryz.f73 [.ro false (.slice tTurn), .ro false (.slice tTurn)] (.one false .bool) (a, b, ()) = g_w_eqTurnS a b := by kernel_rfl
def m_w_eqTurnS : FM := { ps := [.ro false (.slice tTurn), .ro false (.slice tTurn)], res := .one false .bool, run := fun x => g_w_eqTurnS x.1 x.2.1 }
set_option maxRecDepth 4000 in
theorem ok_w_eqTurnS : FmOK Tryz.prog 73 m_w_eqTurnS := @FmOK.made Tryz.prog E_w_eqTurnS ek_w_eqTurnS 73 Tryz.f73 (lookL ll_w_eqTurnS) m_w_eqTurnS Tryz.func73 (by kernel_rfl) lo_w_eqTurnS fun ds out _ hr => by obtain ⟨a, b, ⟨⟩⟩ := ds; exact (ev_w_eqTurnS a b).trans hr

def E_w_eqPose : Tabs := (mkE tab [(72, m_w_eqVector), (73, m_w_eqTurnS)] [])
set_option maxRecDepth 4000 in
theorem ek_w_eqPose : EnvOK Tryz.prog E_w_eqPose := (mkE_ok tab_ok mixed (AllF.cons ok_w_eqVector (AllF.cons ok_w_eqTurnS AllF.nil)) AllX.nil)
theorem ev_w_eqPose (a : dPose) (b : dPose) : evalF E_w_eqPose noL Tryz.f21 [.ro true tPose, .ro true tPose] (.one false .bool) (a, b, ()) = g_w_eqPose a b := by kernel_rfl
def m_w_eqPose : FM := { ps := [.ro true tPose, .ro true tPose], res := .one false .bool, run := fun x => g_w_eqPose x.1 x.2.1 }
set_option maxRecDepth 4000 in
theorem ok_w_eqPose : FmOK Tryz.prog 21 m_w_eqPose := @FmOK.made Tryz.prog E_w_eqPose ek_w_eqPose 21 Tryz.f21 noL m_w_eqPose Tryz.func21 (by kernel_rfl) (Loops.none (by kernel_rfl)) fun ds out _ hr => by obtain ⟨a, b, ⟨⟩⟩ := ds; exact (ev_w_eqPose a b).trans hr

def E_w_eqKey : Tabs := (mkE tab [(124, m_w_eqTurn)] [])
set_option maxRecDepth 4000 in
theorem ek_w_eqKey : EnvOK Tryz.prog E_w_eqKey := (mkE_ok tab_ok mixed (AllF.cons ok_w_eqTurn AllF.nil) AllX.nil)
theorem ev_w_eqKey (a : dKey) (b : dKey) : evalF E_w_eqKey noL Tryz.f193 [.ro true tKey, .ro true tKey] (.one false .bool) (a, b, ()) = g_w_eqKey a b := by kernel_rfl
def m_w_eqKey : FM := { ps := [.ro true tKey, .ro true tKey], res := .one false .bool, run := fun x => some (t_w_eqKey x.1 x.2.1) }
set_option maxRecDepth 4000 in
theorem ok_w_eqKey : FmOK Tryz.prog 193 m_w_eqKey := @FmOK.made Tryz.prog E_w_eqKey ek_w_eqKey 193 Tryz.f193 noL m_w_eqKey Tryz.func193 (by kernel_rfl) (Loops.none (by kernel_rfl)) fun ds out _ hr => by obtain ⟨a, b, ⟨⟩⟩ := ds; exact (ev_w_eqKey a b).trans ((q_w_eqKey a b).trans hr)

def E_w_eqKeyS : Tabs := (mkE tab [(193, m_w_eqKey)] [])
set_option maxRecDepth 4000 in
theorem ek_w_eqKeyS : EnvOK Tryz.prog E_w_eqKeyS := (mkE_ok tab_ok mixed (AllF.cons ok_w_eqKey AllF.nil) AllX.nil)
def lm_L_w_eqKeyS_1 : LM := { mat := [], head := { slots := [(0, .dat false (.slice tKey)), (1, .dat false (.slice tKey)), (4, .dat false .bool), (5, .dat false (.int .i64))], blks := [] }, out := { slots := [(4, .dat false .bool)], blks := [] }, ex := 0, rets := true, run := iter L_w_eqKeyS_1 fuel }
def ll_w_eqKeyS : List (Nat × LP) := [(4, .lm lm_L_w_eqKeyS_1)]
theorem rd_L_w_eqKeyS_1 (rec' : ((List dKey) × (List dKey) × Bool × Int × Unit) × (Unit) → Option (Bool × ((Bool × Unit) × (Unit)))) (a : (List dKey)) (b : (List dKey)) (t4 : Bool) (i : Int) : round E_w_eqKeyS (lookL ll_w_eqKeyS) lm_L_w_eqKeyS_1 27 (loopAt Tryz.f166 0) rec' ((a, b, t4, i, ()), (())) = L_w_eqKeyS_1 rec' ((a, b, t4, i, ()), (())) := by kernel_rfl
theorem lo_w_eqKeyS : Loops E_w_eqKeyS (lookL ll_w_eqKeyS) Tryz.f166 := Loops.list (by kernel_rfl) (by kernel_rfl) ⟨LoopOK.iter (step := L_w_eqKeyS_1) (N := fun _ => fuel) (fun rec' x => by obtain ⟨⟨a, b, t4, i, ⟨⟩⟩, ⟨⟨⟩⟩⟩ := x; exact rd_L_w_eqKeyS_1 rec' a b t4 i) fun _ => rfl, trivial⟩
theorem ev_w_eqKeyS (a : (List dKey)) (b : (List dKey)) : evalF E_w_eqKeyS (lookL ll_w_eqKeyS) Tryz.f166 [.ro false (.slice tKey), .ro false (.slice tKey)] (.one false .bool) (a, b, ()) = g_w_eqKeyS a b := by kernel_rfl
def m_w_eqKeyS : FM := { ps := [.ro false (.slice tKey), .ro false (.slice tKey)], res := .one false .bool, run := fun x => g_w_eqKeyS x.1 x.2.1 }
set_option maxRecDepth 4000 in
theorem ok_w_eqKeyS : FmOK Tryz.prog 166 m_w_eqKeyS := @FmOK.made Tryz.prog E_w_eqKeyS ek_w_eqKeyS 166 Tryz.f166 (lookL ll_w_eqKeyS) m_w_eqKeyS Tryz.func166 (by kernel_rfl) lo_w_eqKeyS fun ds out _ hr => by obtain ⟨a, b, ⟨⟩⟩ := ds; exact (ev_w_eqKeyS a b).trans hr

def E_w_eqKeySS : Tabs := (mkE tab [(166, m_w_eqKeyS)] [])
set_option maxRecDepth 4000 in
theorem ek_w_eqKeySS : EnvOK Tryz.prog E_w_eqKeySS := (mkE_ok tab_ok mixed (AllF.cons ok_w_eqKeyS AllF.nil) AllX.nil)
def lm_L_w_eqKeySS_1 : LM := { mat := [], head := { slots := [(0, .dat false (.slice (.slice tKey))), (1, .dat false (.slice (.slice tKey))), (4, .dat false .bool), (5, .dat false (.int .i64))], blks := [] }, out := { slots := [(4, .dat false .bool)], blks := [] }, ex := 0, rets := true, run := iter L_w_eqKeySS_1 fuel }
def ll_w_eqKeySS : List (Nat × LP) := [(4, .lm lm_L_w_eqKeySS_1)]
theorem rd_L_w_eqKeySS_1 (rec' : ((List (List dKey)) × (List (List dKey)) × Bool × Int × Unit) × (Unit) → Option (Bool × ((Bool × Unit) × (Unit)))) (a : (List (List dKey))) (b : (List (List dKey))) (t4 : Bool) (i : Int) : round E_w_eqKeySS (lookL ll_w_eqKeySS) lm_L_w_eqKeySS_1 27 (loopAt Tryz.f125 0) rec' ((a, b, t4, i, ()), (())) = L_w_eqKeySS_1 rec' ((a, b, t4, i, ()), (())) := by kernel_rfl
theorem lo_w_eqKeySS : Loops E_w_eqKeySS (lookL ll_w_eqKeySS) Tryz.f125 := Loops.list (by kernel_rfl) (by kernel_rfl) ⟨LoopOK.iter (step := L_w_eqKeySS_1) (N := fun _ => fuel) (fun rec' x => by obtain ⟨⟨a, b, t4, i, ⟨⟩⟩, ⟨⟨⟩⟩⟩ := x; exact rd_L_w_eqKeySS_1 rec' a b t4 i) fun _ => rfl, trivial⟩
theorem ev_w_eqKeySS (a : (List (List dKey))) (b : (List (List dKey))) : evalF E_w_eqKeySS (lookL ll_w_eqKeySS) Tryz.f125 [.ro false (.slice (.slice tKey)), .ro false (.slice (.slice tKey))] (.one false .bool) (a, b, ()) = g_w_eqKeySS a b := by kernel_rfl
def m_w_eqKeySS : FM := { ps := [.ro false (.slice (.slice tKey)), .ro false (.slice (.slice tKey))], res := .one false .bool, run := fun x => g_w_eqKeySS x.1 x.2.1 }
set_option maxRecDepth 4000 in
theorem ok_w_eqKeySS : FmOK Tryz.prog 125 m_w_eqKeySS := @FmOK.made Tryz.prog E_w_eqKeySS ek_w_eqKeySS 125 Tryz.f125 (lookL ll_w_eqKeySS) m_w_eqKeySS Tryz.func125 (by kernel_rfl) lo_w_eqKeySS fun ds out _ hr => by obtain ⟨a, b, ⟨⟩⟩ := ds; exact (ev_w_eqKeySS a b).trans hr

def E_w_eqRootKey : Tabs := (mkE tab [(72, m_w_eqVector)] [])
set_option maxRecDepth 4000 in
theorem ek_w_eqRootKey : EnvOK Tryz.prog E_w_eqRootKey := (mkE_ok tab_ok mixed (AllF.cons ok_w_eqVector AllF.nil) AllX.nil)
theorem ev_w_eqRootKey (a : dRootKey) (b : dRootKey) : evalF E_w_eqRootKey noL Tryz.f167 [.ro true tRootKey, .ro true tRootKey] (.one false .bool) (a, b, ()) = g_w_eqRootKey a b := by kernel_rfl
def m_w_eqRootKey : FM := { ps := [.ro true tRootKey, .ro true tRootKey], res := .one false .bool, run := fun x => some (t_w_eqRootKey x.1 x.2.1) }
set_option maxRecDepth 4000 in
theorem ok_w_eqRootKey : FmOK Tryz.prog 167 m_w_eqRootKey := @FmOK.made Tryz.prog E_w_eqRootKey ek_w_eqRootKey 167 Tryz.f167 noL m_w_eqRootKey Tryz.func167 (by kernel_rfl) (Loops.none (by kernel_rfl)) fun ds out _ hr => by obtain ⟨a, b, ⟨⟩⟩ := ds; exact (ev_w_eqRootKey a b).trans ((q_w_eqRootKey a b).trans hr)

def E_w_eqRootKeyS : Tabs := (mkE tab [(167, m_w_eqRootKey)] [])
set_option maxRecDepth 4000 in
theorem ek_w_eqRootKeyS : EnvOK Tryz.prog E_w_eqRootKeyS := (mkE_ok tab_ok mixed (AllF.cons ok_w_eqRootKey AllF.nil) AllX.nil)
def lm_L_w_eqRootKeyS_1 : LM := { mat := [], head := { slots := [(0, .dat false (.slice tRootKey)), (1, .dat false (.slice tRootKey)), (4, .dat false .bool), (5, .dat false (.int .i64))], blks := [] }, out := { slots := [(4, .dat false .bool)], blks := [] }, ex := 0, rets := true, run := iter L_w_eqRootKeyS_1 fuel }
def ll_w_eqRootKeyS : List (Nat × LP) := [(4, .lm lm_L_w_eqRootKeyS_1)]
theorem rd_L_w_eqRootKeyS_1 (rec' : ((List dRootKey) × (List dRootKey) × Bool × Int × Unit) × (Unit) → Option (Bool × ((Bool × Unit) × (Unit)))) (a : (List dRootKey)) (b : (List dRootKey)) (t4 : Bool) (i : Int) : round E_w_eqRootKeyS (lookL ll_w_eqRootKeyS) lm_L_w_eqRootKeyS_1 27 (loopAt Tryz.f126 0) rec' ((a, b, t4, i, ()), (())) = L_w_eqRootKeyS_1 rec' ((a, b, t4, i, ()), (())) := by kernel_rfl
theorem lo_w_eqRootKeyS : Loops E_w_eqRootKeyS (lookL ll_w_eqRootKeyS) Tryz.f126 := Loops.list (by kernel_rfl) (by kernel_rfl) ⟨LoopOK.iter (step := L_w_eqRootKeyS_1) (N := fun _ => fuel) (fun rec' x => by obtain ⟨⟨a, b, t4, i, ⟨⟩⟩, ⟨⟨⟩⟩⟩ := x; exact rd_L_w_eqRootKeyS_1 rec' a b t4 i) fun _ => rfl, trivial⟩
theorem ev_w_eqRootKeyS (a : (List dRootKey)) (b : (List dRootKey)) : evalF E_w_eqRootKeyS (lookL ll_w_eqRootKeyS) Tryz.f126 [.ro false (.slice tRootKey), .ro false (.slice tRootKey)] (.one false .bool) (a, b, ()) = g_w_eqRootKeyS a b := by kernel_rfl
def m_w_eqRootKeyS : FM := { ps := [.ro false (.slice tRootKey), .ro false (.slice tRootKey)], res := .one false .bool, run := fun x => g_w_eqRootKeyS x.1 x.2.1 }
set_option maxRecDepth 4000 in
theorem ok_w_eqRootKeyS : FmOK Tryz.prog 126 m_w_eqRootKeyS := @FmOK.made Tryz.prog E_w_eqRootKeyS ek_w_eqRootKeyS 126 Tryz.f126 (lookL ll_w_eqRootKeyS) m_w_eqRootKeyS Tryz.func126 (by kernel_rfl) lo_w_eqRootKeyS fun ds out _ hr => by obtain ⟨a, b, ⟨⟩⟩ := ds; exact (ev_w_eqRootKeyS a b).trans hr

def E_w_eqClip : Tabs := (mkE tab [(125, m_w_eqKeySS), (126, m_w_eqRootKeyS)] [])
set_option maxRecDepth 4000 in
theorem ek_w_eqClip : EnvOK Tryz.prog E_w_eqClip := (mkE_ok tab_ok mixed (AllF.cons ok_w_eqKeySS (AllF.cons ok_w_eqRootKeyS AllF.nil)) AllX.nil)
theorem ev_w_eqClip (a : dClip) (b : dClip) : evalF E_w_eqClip noL Tryz.f74 [.ro true tClip, .ro true tClip] (.one false .bool) (a, b, ()) = g_w_eqClip a b := by kernel_rfl
def m_w_eqClip : FM := { ps := [.ro true tClip, .ro true tClip], res := .one false .bool, run := fun x => g_w_eqClip x.1 x.2.1 }
set_option maxRecDepth 4000 in
theorem ok_w_eqClip : FmOK Tryz.prog 74 m_w_eqClip := @FmOK.made Tryz.prog E_w_eqClip ek_w_eqClip 74 Tryz.f74 noL m_w_eqClip Tryz.func74 (by kernel_rfl) (Loops.none (by kernel_rfl)) fun ds out _ hr => by obtain ⟨a, b, ⟨⟩⟩ := ds; exact (ev_w_eqClip a b).trans hr

def E_w_eqClipS : Tabs := (mkE tab [(74, m_w_eqClip)] [])
set_option maxRecDepth 4000 in
theorem ek_w_eqClipS : EnvOK Tryz.prog E_w_eqClipS := (mkE_ok tab_ok mixed (AllF.cons ok_w_eqClip AllF.nil) AllX.nil)
def lm_L_w_eqClipS_1 : LM := { mat := [], head := { slots := [(0, .dat false (.slice tClip)), (1, .dat false (.slice tClip)), (4, .dat false .bool), (5, .dat false (.int .i64))], blks := [] }, out := { slots := [(4, .dat false .bool)], blks := [] }, ex := 0, rets := true, run := iter L_w_eqClipS_1 fuel }
def ll_w_eqClipS : List (Nat × LP) := [(4, .lm lm_L_w_eqClipS_1)]
theorem rd_L_w_eqClipS_1 (rec' : ((List dClip) × (List dClip) × Bool × Int × Unit) × (Unit) → Option (Bool × ((Bool × Unit) × (Unit)))) (a : (List dClip)) (b : (List dClip)) (t4 : Bool) (i : Int) : round E_w_eqClipS (lookL ll_w_eqClipS) lm_L_w_eqClipS_1 27 (loopAt Tryz.f22 0) rec' ((a, b, t4, i, ()), (())) = L_w_eqClipS_1 rec' ((a, b, t4, i, ()), (())) := by kernel_rfl
theorem lo_w_eqClipS : Loops E_w_eqClipS (lookL ll_w_eqClipS) Tryz.f22 := Loops.list (by kernel_rfl) (by kernel_rfl) ⟨LoopOK.iter (step := L_w_eqClipS_1) (N := fun _ => fuel) (fun rec' x => by obtain ⟨⟨a, b, t4, i, ⟨⟩⟩, ⟨⟨⟩⟩⟩ := x; exact rd_L_w_eqClipS_1 rec' a b t4 i) fun _ => rfl, trivial⟩
theorem ev_w_eqClipS (a : (List dClip)) (b : (List dClip)) : evalF E_w_eqClipS (lookL ll_w_eqClipS) Tryz.f22 [.ro false (.slice tClip), .ro false (.slice tClip)] (.one false .bool) (a, b, ()) = g_w_eqClipS a b := by kernel_rfl
def m_w_eqClipS : FM := { ps := [.ro false (.slice tClip), .ro false (.slice tClip)], res := .one false .bool, run := fun x => g_w_eqClipS x.1 x.2.1 }
set_option maxRecDepth 4000 in
theorem ok_w_eqClipS : FmOK Tryz.prog 22 m_w_eqClipS := @FmOK.made Tryz.prog E_w_eqClipS ek_w_eqClipS 22 Tryz.f22 (lookL ll_w_eqClipS) m_w_eqClipS Tryz.func22 (by kernel_rfl) lo_w_eqClipS fun ds out _ hr => by obtain ⟨a, b, ⟨⟩⟩ := ds; exact (ev_w_eqClipS a b).trans hr

def E_w_eqFloat32S : Tabs := (mkE tab [(55, m_w_sameFloat)] [])
set_option maxRecDepth 4000 in
theorem ek_w_eqFloat32S : EnvOK Tryz.prog E_w_eqFloat32S := (mkE_ok tab_ok mixed (AllF.cons ok_w_sameFloat AllF.nil) AllX.nil)
def lm_L_w_eqFloat32S_1 : LM := { mat := [], head := { slots := [(0, .dat false (.slice (.flt .f32))), (1, .dat false (.slice (.flt .f32))), (4, .dat false .bool), (5, .dat false (.int .i64))], blks := [] }, out := { slots := [(4, .dat false .bool)], blks := [] }, ex := 0, rets := true, run := iter L_w_eqFloat32S_1 fuel }
def ll_w_eqFloat32S : List (Nat × LP) := [(4, .lm lm_L_w_eqFloat32S_1)]
theorem rd_L_w_eqFloat32S_1 (rec' : ((List Nat) × (List Nat) × Bool × Int × Unit) × (Unit) → Option (Bool × ((Bool × Unit) × (Unit)))) (a : (List Nat)) (b : (List Nat)) (t4 : Bool) (i : Int) : round E_w_eqFloat32S (lookL ll_w_eqFloat32S) lm_L_w_eqFloat32S_1 29 (loopAt Tryz.f16 0) rec' ((a, b, t4, i, ()), (())) = L_w_eqFloat32S_1 rec' ((a, b, t4, i, ()), (())) := by kernel_rfl
theorem lo_w_eqFloat32S : Loops E_w_eqFloat32S (lookL ll_w_eqFloat32S) Tryz.f16 := Loops.list (by kernel_rfl) (by kernel_rfl) ⟨LoopOK.iter (step := L_w_eqFloat32S_1) (N := fun _ => fuel) (fun rec' x => by obtain ⟨⟨a, b, t4, i, ⟨⟩⟩, ⟨⟨⟩⟩⟩ := x; exact rd_L_w_eqFloat32S_1 rec' a b t4 i) fun _ => rfl, trivial⟩
theorem ev_w_eqFloat32S (a : (List Nat)) (b : (List Nat)) : evalF E_w_eqFloat32S (lookL ll_w_eqFloat32S) Tryz.f16 [.ro false (.slice (.flt .f32)), .ro false (.slice (.flt .f32))] (.one false .bool) (a, b, ()) = g_w_eqFloat32S a b := by kernel_rfl
def m_w_eqFloat32S : FM := { ps := [.ro false (.slice (.flt .f32)), .ro false (.slice (.flt .f32))], res := .one false .bool, run := fun x => g_w_eqFloat32S x.1 x.2.1 }
set_option maxRecDepth 4000 in
theorem ok_w_eqFloat32S : FmOK Tryz.prog 16 m_w_eqFloat32S := @FmOK.made Tryz.prog E_w_eqFloat32S ek_w_eqFloat32S 16 Tryz.f16 (lookL ll_w_eqFloat32S) m_w_eqFloat32S Tryz.func16 (by kernel_rfl) lo_w_eqFloat32S fun ds out _ hr => by obtain ⟨a, b, ⟨⟩⟩ := ds; exact (ev_w_eqFloat32S a b).trans hr

def E_w_markKeyS : Tabs := (mkE tab [] [])
set_option maxRecDepth 4000 in
theorem ek_w_markKeyS : EnvOK Tryz.prog E_w_markKeyS := (mkE_ok tab_ok mixed AllF.nil AllX.nil)
def lm_L_w_markKeyS_1 : LM := { mat := [], head := { slots := [(0, .cst (.sl (.row 0))), (1, .dat false (.int .i64)), (5, .dat false (.int .i64))], blks := [.row true tKey] }, out := { slots := [(1, .dat false (.int .i64))], blks := [.row true tKey] }, ex := 0, rets := false, run := iter L_w_markKeyS_1 fuel }
def ll_w_markKeyS : List (Nat × LP) := [(2, .lm lm_L_w_markKeyS_1)]
theorem rd_L_w_markKeyS_1 (rec' : (Int × Int × Unit) × ((List dKey) × Unit) → Option ((Int × Unit) × ((List dKey) × Unit))) (k : Int) (i : Int) (r0 : (List dKey)) : round E_w_markKeyS (lookL ll_w_markKeyS) lm_L_w_markKeyS_1 56 (loopAt Tryz.f127 0) rec' ((k, i, ()), (r0, ())) = L_w_markKeyS_1 rec' ((k, i, ()), (r0, ())) := by kernel_rfl
theorem lo_w_markKeyS : Loops E_w_markKeyS (lookL ll_w_markKeyS) Tryz.f127 := Loops.list (by kernel_rfl) (by kernel_rfl) ⟨LoopOK.iter (step := L_w_markKeyS_1) (N := fun _ => fuel) (fun rec' x => by obtain ⟨⟨k, i, ⟨⟩⟩, ⟨r0, ⟨⟩⟩⟩ := x; exact rd_L_w_markKeyS_1 rec' k i r0) fun _ => rfl, trivial⟩
theorem ev_w_markKeyS (a : (List dKey)) (k : Int) : evalX E_w_markKeyS (lookL ll_w_markKeyS) Tryz.f127 [.own false (.slice tKey), .ro false (.int .i64)] (.one false (.int .i64)) (a, k, ()) = g_w_markKeyS a k := by kernel_rfl
def m_w_markKeyS : FX := { ps := [.own false (.slice tKey), .ro false (.int .i64)], res := .one false (.int .i64), run := fun x => g_w_markKeyS x.1 x.2.1 }
set_option maxRecDepth 4000 in
theorem ok_w_markKeyS : FxOK Tryz.prog 127 m_w_markKeyS := @FxOK.made Tryz.prog E_w_markKeyS ek_w_markKeyS 127 Tryz.f127 (lookL ll_w_markKeyS) m_w_markKeyS Tryz.func127 (by kernel_rfl) lo_w_markKeyS fun ds out _ hr => by obtain ⟨a, k, ⟨⟩⟩ := ds; exact (ev_w_markKeyS a k).trans hr

def E_w_markKeySS : Tabs := (mkE tab [] [(127, m_w_markKeyS)])
set_option maxRecDepth 4000 in
theorem ek_w_markKeySS : EnvOK Tryz.prog E_w_markKeySS := (mkE_ok tab_ok mixed AllF.nil (AllX.cons ok_w_markKeyS AllX.nil))
def lm_L_w_markKeySS_1 : LM := { mat := [], head := { slots := [(0, .cst (.sl (.row 0))), (1, .dat false (.int .i64)), (5, .dat false (.int .i64))], blks := [.row true (.slice tKey)] }, out := { slots := [(1, .dat false (.int .i64))], blks := [.row true (.slice tKey)] }, ex := 0, rets := false, run := iter L_w_markKeySS_1 fuel }
def ll_w_markKeySS : List (Nat × LP) := [(2, .lm lm_L_w_markKeySS_1)]
theorem rd_L_w_markKeySS_1 (rec' : (Int × Int × Unit) × ((List (List dKey)) × Unit) → Option ((Int × Unit) × ((List (List dKey)) × Unit))) (k : Int) (i : Int) (r0 : (List (List dKey))) : round E_w_markKeySS (lookL ll_w_markKeySS) lm_L_w_markKeySS_1 19 (loopAt Tryz.f75 0) rec' ((k, i, ()), (r0, ())) = L_w_markKeySS_1 rec' ((k, i, ()), (r0, ())) := by kernel_rfl
theorem lo_w_markKeySS : Loops E_w_markKeySS (lookL ll_w_markKeySS) Tryz.f75 := Loops.list (by kernel_rfl) (by kernel_rfl) ⟨LoopOK.iter (step := L_w_markKeySS_1) (N := fun _ => fuel) (fun rec' x => by obtain ⟨⟨k, i, ⟨⟩⟩, ⟨r0, ⟨⟩⟩⟩ := x; exact rd_L_w_markKeySS_1 rec' k i r0) fun _ => rfl, trivial⟩
theorem ev_w_markKeySS (a : (List (List dKey))) (k : Int) : evalX E_w_markKeySS (lookL ll_w_markKeySS) Tryz.f75 [.own false (.slice (.slice tKey)), .ro false (.int .i64)] (.one false (.int .i64)) (a, k, ()) = g_w_markKeySS a k := by kernel_rfl
def m_w_markKeySS : FX := { ps := [.own false (.slice (.slice tKey)), .ro false (.int .i64)], res := .one false (.int .i64), run := fun x => g_w_markKeySS x.1 x.2.1 }
set_option maxRecDepth 4000 in
theorem ok_w_markKeySS : FxOK Tryz.prog 75 m_w_markKeySS := @FxOK.made Tryz.prog E_w_markKeySS ek_w_markKeySS 75 Tryz.f75 (lookL ll_w_markKeySS) m_w_markKeySS Tryz.func75 (by kernel_rfl) lo_w_markKeySS fun ds out _ hr => by obtain ⟨a, k, ⟨⟩⟩ := ds; exact (ev_w_markKeySS a k).trans hr

def E_w_markRootKeyS : Tabs := (mkE tab [] [])
set_option maxRecDepth 4000 in
theorem ek_w_markRootKeyS : EnvOK Tryz.prog E_w_markRootKeyS := (mkE_ok tab_ok mixed AllF.nil AllX.nil)
def lm_L_w_markRootKeyS_1 : LM := { mat := [], head := { slots := [(0, .cst (.sl (.row 0))), (1, .dat false (.int .i64)), (5, .dat false (.int .i64))], blks := [.row true tRootKey] }, out := { slots := [(1, .dat false (.int .i64))], blks := [.row true tRootKey] }, ex := 0, rets := false, run := iter L_w_markRootKeyS_1 fuel }
def ll_w_markRootKeyS : List (Nat × LP) := [(2, .lm lm_L_w_markRootKeyS_1)]
theorem rd_L_w_markRootKeyS_1 (rec' : (Int × Int × Unit) × ((List dRootKey) × Unit) → Option ((Int × Unit) × ((List dRootKey) × Unit))) (k : Int) (i : Int) (r0 : (List dRootKey)) : round E_w_markRootKeyS (lookL ll_w_markRootKeyS) lm_L_w_markRootKeyS_1 47 (loopAt Tryz.f76 0) rec' ((k, i, ()), (r0, ())) = L_w_markRootKeyS_1 rec' ((k, i, ()), (r0, ())) := by kernel_rfl
theorem lo_w_markRootKeyS : Loops E_w_markRootKeyS (lookL ll_w_markRootKeyS) Tryz.f76 := Loops.list (by kernel_rfl) (by kernel_rfl) ⟨LoopOK.iter (step := L_w_markRootKeyS_1) (N := fun _ => fuel) (fun rec' x => by obtain ⟨⟨k, i, ⟨⟩⟩, ⟨r0, ⟨⟩⟩⟩ := x; exact rd_L_w_markRootKeyS_1 rec' k i r0) fun _ => rfl, trivial⟩
theorem ev_w_markRootKeyS (a : (List dRootKey)) (k : Int) : evalX E_w_markRootKeyS (lookL ll_w_markRootKeyS) Tryz.f76 [.own false (.slice tRootKey), .ro false (.int .i64)] (.one false (.int .i64)) (a, k, ()) = g_w_markRootKeyS a k := by kernel_rfl
def m_w_markRootKeyS : FX := { ps := [.own false (.slice tRootKey), .ro false (.int .i64)], res := .one false (.int .i64), run := fun x => g_w_markRootKeyS x.1 x.2.1 }
set_option maxRecDepth 4000 in
theorem ok_w_markRootKeyS : FxOK Tryz.prog 76 m_w_markRootKeyS := @FxOK.made Tryz.prog E_w_markRootKeyS ek_w_markRootKeyS 76 Tryz.f76 (lookL ll_w_markRootKeyS) m_w_markRootKeyS Tryz.func76 (by kernel_rfl) lo_w_markRootKeyS fun ds out _ hr => by obtain ⟨a, k, ⟨⟩⟩ := ds; exact (ev_w_markRootKeyS a k).trans hr

def E_w_markClipS : Tabs := (mkE tab [] [(75, m_w_markKeySS), (76, m_w_markRootKeyS)])
set_option maxRecDepth 4000 in
theorem ek_w_markClipS : EnvOK Tryz.prog E_w_markClipS := (mkE_ok tab_ok mixed AllF.nil (AllX.cons ok_w_markKeySS (AllX.cons ok_w_markRootKeyS AllX.nil)))
def lm_L_w_markClipS_1 : LM := { mat := [], head := { slots := [(0, .cst (.sl (.row 0))), (1, .dat false (.int .i64)), (5, .dat false (.int .i64))], blks := [.row true tClip] }, out := { slots := [(1, .dat false (.int .i64))], blks := [.row true tClip] }, ex := 0, rets := false, run := iter L_w_markClipS_1 fuel }
def ll_w_markClipS : List (Nat × LP) := [(2, .lm lm_L_w_markClipS_1)]
theorem rd_L_w_markClipS_1 (rec' : (Int × Int × Unit) × ((List dClip) × Unit) → Option ((Int × Unit) × ((List dClip) × Unit))) (k : Int) (i : Int) (r0 : (List dClip)) : round E_w_markClipS (lookL ll_w_markClipS) lm_L_w_markClipS_1 41 (loopAt Tryz.f23 0) rec' ((k, i, ()), (r0, ())) = L_w_markClipS_1 rec' ((k, i, ()), (r0, ())) := by kernel_rfl
theorem lo_w_markClipS : Loops E_w_markClipS (lookL ll_w_markClipS) Tryz.f23 := Loops.list (by kernel_rfl) (by kernel_rfl) ⟨LoopOK.iter (step := L_w_markClipS_1) (N := fun _ => fuel) (fun rec' x => by obtain ⟨⟨k, i, ⟨⟩⟩, ⟨r0, ⟨⟩⟩⟩ := x; exact rd_L_w_markClipS_1 rec' k i r0) fun _ => rfl, trivial⟩
theorem ev_w_markClipS (a : (List dClip)) (k : Int) : evalX E_w_markClipS (lookL ll_w_markClipS) Tryz.f23 [.own false (.slice tClip), .ro false (.int .i64)] (.one false (.int .i64)) (a, k, ()) = g_w_markClipS a k := by kernel_rfl
def m_w_markClipS : FX := { ps := [.own false (.slice tClip), .ro false (.int .i64)], res := .one false (.int .i64), run := fun x => g_w_markClipS x.1 x.2.1 }
set_option maxRecDepth 4000 in
theorem ok_w_markClipS : FxOK Tryz.prog 23 m_w_markClipS := @FxOK.made Tryz.prog E_w_markClipS ek_w_markClipS 23 Tryz.f23 (lookL ll_w_markClipS) m_w_markClipS Tryz.func23 (by kernel_rfl) lo_w_markClipS fun ds out _ hr => by obtain ⟨a, k, ⟨⟩⟩ := ds; exact (ev_w_markClipS a k).trans hr

def E_w_markFloat32S : Tabs := (mkE tab [] [])
set_option maxRecDepth 4000 in
theorem ek_w_markFloat32S : EnvOK Tryz.prog E_w_markFloat32S := (mkE_ok tab_ok mixed AllF.nil AllX.nil)
def lm_L_w_markFloat32S_1 : LM := { mat := [], head := { slots := [(0, .cst (.sl (.row 0))), (1, .dat false (.int .i64)), (5, .dat false (.int .i64))], blks := [.row true (.flt .f32)] }, out := { slots := [(1, .dat false (.int .i64))], blks := [.row true (.flt .f32)] }, ex := 0, rets := false, run := iter L_w_markFloat32S_1 fuel }
def ll_w_markFloat32S : List (Nat × LP) := [(2, .lm lm_L_w_markFloat32S_1)]
theorem rd_L_w_markFloat32S_1 (rec' : (Int × Int × Unit) × ((List Nat) × Unit) → Option ((Int × Unit) × ((List Nat) × Unit))) (k : Int) (i : Int) (r0 : (List Nat)) : round E_w_markFloat32S (lookL ll_w_markFloat32S) lm_L_w_markFloat32S_1 20 (loopAt Tryz.f24 0) rec' ((k, i, ()), (r0, ())) = L_w_markFloat32S_1 rec' ((k, i, ()), (r0, ())) := by kernel_rfl
theorem lo_w_markFloat32S : Loops E_w_markFloat32S (lookL ll_w_markFloat32S) Tryz.f24 := Loops.list (by kernel_rfl) (by kernel_rfl) ⟨LoopOK.iter (step := L_w_markFloat32S_1) (N := fun _ => fuel) (fun rec' x => by obtain ⟨⟨k, i, ⟨⟩⟩, ⟨r0, ⟨⟩⟩⟩ := x; exact rd_L_w_markFloat32S_1 rec' k i r0) fun _ => rfl, trivial⟩
theorem ev_w_markFloat32S (a : (List Nat)) (k : Int) : evalX E_w_markFloat32S (lookL ll_w_markFloat32S) Tryz.f24 [.own false (.slice (.flt .f32)), .ro false (.int .i64)] (.one false (.int .i64)) (a, k, ()) = g_w_markFloat32S a k := by kernel_rfl
def m_w_markFloat32S : FX := { ps := [.own false (.slice (.flt .f32)), .ro false (.int .i64)], res := .one false (.int .i64), run := fun x => g_w_markFloat32S x.1 x.2.1 }
set_option maxRecDepth 4000 in
theorem ok_w_markFloat32S : FxOK Tryz.prog 24 m_w_markFloat32S := @FxOK.made Tryz.prog E_w_markFloat32S ek_w_markFloat32S 24 Tryz.f24 (lookL ll_w_markFloat32S) m_w_markFloat32S Tryz.func24 (by kernel_rfl) lo_w_markFloat32S fun ds out _ hr => by obtain ⟨a, k, ⟨⟩⟩ := ds; exact (ev_w_markFloat32S a k).trans hr

def E_w_markTurnS : Tabs := (mkE tab [] [])
set_option maxRecDepth 4000 in
theorem ek_w_markTurnS : EnvOK Tryz.prog E_w_markTurnS := (mkE_ok tab_ok mixed AllF.nil AllX.nil)
def lm_L_w_markTurnS_1 : LM := { mat := [], head := { slots := [(0, .cst (.sl (.row 0))), (1, .dat false (.int .i64)), (5, .dat false (.int .i64))], blks := [.row true tTurn] }, out := { slots := [(1, .dat false (.int .i64))], blks := [.row true tTurn] }, ex := 0, rets := false, run := iter L_w_markTurnS_1 fuel }
def ll_w_markTurnS : List (Nat × LP) := [(2, .lm lm_L_w_markTurnS_1)]
theorem rd_L_w_markTurnS_1 (rec' : (Int × Int × Unit) × ((List dTurn) × Unit) → Option ((Int × Unit) × ((List dTurn) × Unit))) (k : Int) (i : Int) (r0 : (List dTurn)) : round E_w_markTurnS (lookL ll_w_markTurnS) lm_L_w_markTurnS_1 45 (loopAt Tryz.f77 0) rec' ((k, i, ()), (r0, ())) = L_w_markTurnS_1 rec' ((k, i, ()), (r0, ())) := by kernel_rfl
theorem lo_w_markTurnS : Loops E_w_markTurnS (lookL ll_w_markTurnS) Tryz.f77 := Loops.list (by kernel_rfl) (by kernel_rfl) ⟨LoopOK.iter (step := L_w_markTurnS_1) (N := fun _ => fuel) (fun rec' x => by obtain ⟨⟨k, i, ⟨⟩⟩, ⟨r0, ⟨⟩⟩⟩ := x; exact rd_L_w_markTurnS_1 rec' k i r0) fun _ => rfl, trivial⟩
theorem ev_w_markTurnS (a : (List dTurn)) (k : Int) : evalX E_w_markTurnS (lookL ll_w_markTurnS) Tryz.f77 [.own false (.slice tTurn), .ro false (.int .i64)] (.one false (.int .i64)) (a, k, ()) = g_w_markTurnS a k := by kernel_rfl
def m_w_markTurnS : FX := { ps := [.own false (.slice tTurn), .ro false (.int .i64)], res := .one false (.int .i64), run := fun x => g_w_markTurnS x.1 x.2.1 }
set_option maxRecDepth 4000 in
theorem ok_w_markTurnS : FxOK Tryz.prog 77 m_w_markTurnS := @FxOK.made Tryz.prog E_w_markTurnS ek_w_markTurnS 77 Tryz.f77 (lookL ll_w_markTurnS) m_w_markTurnS Tryz.func77 (by kernel_rfl) lo_w_markTurnS fun ds out _ hr => by obtain ⟨a, k, ⟨⟩⟩ := ds; exact (ev_w_markTurnS a k).trans hr

def E_w_markPose : Tabs := (mkE tab [] [(77, m_w_markTurnS)])
set_option maxRecDepth 4000 in
theorem ek_w_markPose : EnvOK Tryz.prog E_w_markPose := (mkE_ok tab_ok mixed AllF.nil (AllX.cons ok_w_markTurnS AllX.nil))
theorem ev_w_markPose (a : dPose) (k : Int) : evalX E_w_markPose noL Tryz.f25 [.own true tPose, .ro false (.int .i64)] (.one false (.int .i64)) (a, k, ()) = g_w_markPose a k := by kernel_rfl
def m_w_markPose : FX := { ps := [.own true tPose, .ro false (.int .i64)], res := .one false (.int .i64), run := fun x => g_w_markPose x.1 x.2.1 }
set_option maxRecDepth 4000 in
theorem ok_w_markPose : FxOK Tryz.prog 25 m_w_markPose := @FxOK.made Tryz.prog E_w_markPose ek_w_markPose 25 Tryz.f25 noL m_w_markPose Tryz.func25 (by kernel_rfl) (Loops.none (by kernel_rfl)) fun ds out _ hr => by obtain ⟨a, k, ⟨⟩⟩ := ds; exact (ev_w_markPose a k).trans hr

def E_w_heldTurnS : Tabs := (mkE tab [] [])
set_option maxRecDepth 4000 in
theorem ek_w_heldTurnS : EnvOK Tryz.prog E_w_heldTurnS := (mkE_ok tab_ok mixed AllF.nil AllX.nil)
def lm_L_w_heldTurnS_1 : LM := { mat := [], head := { slots := [(0, .dat false (.slice tTurn)), (1, .dat false (.int .i64)), (4, .dat false (.int .i64)), (5, .dat false (.int .i64))], blks := [] }, out := { slots := [(1, .dat false (.int .i64)), (4, .dat false (.int .i64))], blks := [] }, ex := 0, rets := true, run := iter L_w_heldTurnS_1 fuel }
def ll_w_heldTurnS : List (Nat × LP) := [(2, .lm lm_L_w_heldTurnS_1)]
theorem rd_L_w_heldTurnS_1 (rec' : ((List dTurn) × Int × Int × Int × Unit) × (Unit) → Option (Bool × ((Int × Int × Unit) × (Unit)))) (a : (List dTurn)) (k : Int) (t4 : Int) (i : Int) : round E_w_heldTurnS (lookL ll_w_heldTurnS) lm_L_w_heldTurnS_1 53 (loopAt Tryz.f78 0) rec' ((a, k, t4, i, ()), (())) = L_w_heldTurnS_1 rec' ((a, k, t4, i, ()), (())) := by kernel_rfl
theorem lo_w_heldTurnS : Loops E_w_heldTurnS (lookL ll_w_heldTurnS) Tryz.f78 := Loops.list (by kernel_rfl) (by kernel_rfl) ⟨LoopOK.iter (step := L_w_heldTurnS_1) (N := fun _ => fuel) (fun rec' x => by obtain ⟨⟨a, k, t4, i, ⟨⟩⟩, ⟨⟨⟩⟩⟩ := x; exact rd_L_w_heldTurnS_1 rec' a k t4 i) fun _ => rfl, trivial⟩
theorem ev_w_heldTurnS (a : (List dTurn)) (k : Int) : evalF E_w_heldTurnS (lookL ll_w_heldTurnS) Tryz.f78 [.ro false (.slice tTurn), .ro false (.int .i64)] (.one false (.int .i64)) (a, k, ()) = g_w_heldTurnS a k := by kernel_rfl
def m_w_heldTurnS : FM := { ps := [.ro false (.slice tTurn), .ro false (.int .i64)], res := .one false (.int .i64), run := fun x => g_w_heldTurnS x.1 x.2.1 }
set_option maxRecDepth 4000 in
theorem ok_w_heldTurnS : FmOK Tryz.prog 78 m_w_heldTurnS := @FmOK.made Tryz.prog E_w_heldTurnS ek_w_heldTurnS 78 Tryz.f78 (lookL ll_w_heldTurnS) m_w_heldTurnS Tryz.func78 (by kernel_rfl) lo_w_heldTurnS fun ds out _ hr => by obtain ⟨a, k, ⟨⟩⟩ := ds; exact (ev_w_heldTurnS a k).trans hr

def E_w_heldPose : Tabs := (mkE tab [(78, m_w_heldTurnS)] [])
set_option maxRecDepth 4000 in
theorem ek_w_heldPose : EnvOK Tryz.prog E_w_heldPose := (mkE_ok tab_ok mixed (AllF.cons ok_w_heldTurnS AllF.nil) AllX.nil)
theorem ev_w_heldPose (a : dPose) (k : Int) : evalF E_w_heldPose noL Tryz.f26 [.ro true tPose, .ro false (.int .i64)] (.one false (.int .i64)) (a, k, ()) = g_w_heldPose a k := by kernel_rfl
def m_w_heldPose : FM := { ps := [.ro true tPose, .ro false (.int .i64)], res := .one false (.int .i64), run := fun x => g_w_heldPose x.1 x.2.1 }
set_option maxRecDepth 4000 in
theorem ok_w_heldPose : FmOK Tryz.prog 26 m_w_heldPose := @FmOK.made Tryz.prog E_w_heldPose ek_w_heldPose 26 Tryz.f26 noL m_w_heldPose Tryz.func26 (by kernel_rfl) (Loops.none (by kernel_rfl)) fun ds out _ hr => by obtain ⟨a, k, ⟨⟩⟩ := ds; exact (ev_w_heldPose a k).trans hr

def E_w_FnExactBlendClips : Tabs := (mkE tab [(17, m_w_szClipS), (19, m_w_toClipS), (12, m_w_toFloat32S), (18, m_s_BlendClips), (20, m_i_BlendClips), (21, m_w_eqPose), (22, m_w_eqClipS), (16, m_w_eqFloat32S), (26, m_w_heldPose)] [(23, m_w_markClipS), (24, m_w_markFloat32S), (25, m_w_markPose)])
set_option maxRecDepth 4000 in
theorem ek_w_FnExactBlendClips : EnvOK Tryz.prog E_w_FnExactBlendClips := (mkE_ok tab_ok mixed (AllF.cons ok_w_szClipS (AllF.cons ok_w_toClipS (AllF.cons ok_w_toFloat32S (AllF.cons ok_s_BlendClips (AllF.cons ok_i_BlendClips (AllF.cons ok_w_eqPose (AllF.cons ok_w_eqClipS (AllF.cons ok_w_eqFloat32S (AllF.cons ok_w_heldPose AllF.nil))))))))) (AllX.cons ok_w_markClipS (AllX.cons ok_w_markFloat32S (AllX.cons ok_w_markPose AllX.nil))))
theorem ev_w_FnExactBlendClips (aClips : (List dClip)) (aPoints : (List Nat)) (aX : Nat) (aAt : Int) : evalF E_w_FnExactBlendClips noL Tryz.f4 [.ro false (.slice tClip), .ro false (.slice (.flt .f32)), .ro false (.flt .f32), .ro false (.int .i64)] (.one false .bool) (aClips, aPoints, aX, aAt, ()) = g_w_FnExactBlendClips aClips aPoints aX aAt := by kernel_rfl
end
end Go.Fw.Z
