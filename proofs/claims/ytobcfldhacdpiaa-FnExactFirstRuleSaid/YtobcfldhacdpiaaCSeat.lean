/- The functions of the translation compute what the plain functions compute. No condition. -/
import Derived.Test.YtobcfldhacdpiaaCPure
import Derived.Test.YtobcfldhacdpiaaProg
import Derived.KernelRfl
set_option linter.unusedVariables false
namespace Go.Fw.C
open Go.Fw Go.Proofs Go.RowKit
def tab : List (Nat × TI) := [
  (2, { und := .int .i64, size := 1, bytes := 8, zero := [.int .i64 0], ty := (.int .i64) }),
  (3, { und := .int .i64, size := 1, bytes := 8, zero := [.int .i64 0], ty := (.int .i64) }),
  (4, { und := .bool, size := 1, bytes := 1, zero := [.bool false], ty := .bool }),
  (22, { und := .slice 111, size := 1, bytes := 24, zero := [.sl .nil], ty := (.slice tClip) }),
  (23, { und := .slice 120, size := 1, bytes := 24, zero := [.sl .nil], ty := (.slice tState) }),
  (24, { und := .slice 122, size := 1, bytes := 24, zero := [.sl .nil], ty := (.slice tRule) }),
  (26, { und := .struct [(0, 22), (1, 23), (2, 24)], size := 3, bytes := 72, zero := [.sl .nil, .sl .nil, .sl .nil], ty := tMachine }),
  (29, { und := .slice 117, size := 1, bytes := 24, zero := [.sl .nil], ty := (.slice tClip) }),
  (30, { und := .slice 74, size := 1, bytes := 24, zero := [.sl .nil], ty := (.slice tState) }),
  (31, { und := .slice 77, size := 1, bytes := 24, zero := [.sl .nil], ty := (.slice tRule) }),
  (33, { und := .struct [(0, 29), (1, 30), (2, 31)], size := 3, bytes := 72, zero := [.sl .nil, .sl .nil, .sl .nil], ty := tMachine }),
  (38, { und := .struct [(0, 2), (1, 2), (2, 2), (3, 2), (4, 2), (5, 2)], size := 6, bytes := 48, zero := [.int .i64 0, .int .i64 0, .int .i64 0, .int .i64 0, .int .i64 0, .int .i64 0], ty := tRun }),
  (43, { und := .struct [(0, 2), (1, 2), (2, 2), (3, 2), (4, 2), (5, 2)], size := 6, bytes := 48, zero := [.int .i64 0, .int .i64 0, .int .i64 0, .int .i64 0, .int .i64 0, .int .i64 0], ty := tRun }),
  (47, { und := .slice 53, size := 1, bytes := 24, zero := [.sl .nil], ty := (.slice (.flt .f32)) }),
  (53, { und := .flt .f32, size := 1, bytes := 4, zero := [.flt .f32 0], ty := (.flt .f32) }),
  (55, { und := .struct [(0, 2), (1, 2), (2, 53)], size := 3, bytes := 24, zero := [.int .i64 0, .int .i64 0, .flt .f32 0], ty := tPacking }),
  (59, { und := .struct [(0, 2), (1, 2), (2, 53)], size := 3, bytes := 24, zero := [.int .i64 0, .int .i64 0, .flt .f32 0], ty := tPacking }),
  (68, { und := .other, size := 1, bytes := 8, zero := [.pnil], ty := .unit }),
  (74, { und := .struct [(0, 2), (1, 2), (2, 4)], size := 3, bytes := 24, zero := [.int .i64 0, .int .i64 0, .bool false], ty := tState }),
  (77, { und := .struct [(0, 2), (1, 2), (2, 2), (3, 2), (4, 53), (5, 2)], size := 6, bytes := 48, zero := [.int .i64 0, .int .i64 0, .int .i64 0, .int .i64 0, .flt .f32 0, .int .i64 0], ty := tRule }),
  (78, { und := .other, size := 1, bytes := 8, zero := [.undef], ty := .unit }),
  (86, { und := .other, size := 1, bytes := 8, zero := [.pnil], ty := .unit }),
  (91, { und := .flt .f64, size := 1, bytes := 8, zero := [.flt .f64 0], ty := (.flt .f64) }),
  (93, { und := .other, size := 1, bytes := 8, zero := [.pnil], ty := .unit }),
  (97, { und := .struct [(0, 53), (1, 53), (2, 53)], size := 3, bytes := 12, zero := [.flt .f32 0, .flt .f32 0, .flt .f32 0], ty := tVec }),
  (108, { und := .slice 195, size := 1, bytes := 24, zero := [.sl .nil], ty := (.slice (.slice tKey)) }),
  (109, { und := .slice 200, size := 1, bytes := 24, zero := [.sl .nil], ty := (.slice tRootKey) }),
  (111, { und := .struct [(0, 2), (1, 2), (2, 108), (3, 109)], size := 4, bytes := 64, zero := [.int .i64 0, .int .i64 0, .sl .nil, .sl .nil], ty := tClip }),
  (113, { und := .other, size := 1, bytes := 8, zero := [.pnil], ty := .unit }),
  (114, { und := .slice 155, size := 1, bytes := 24, zero := [.sl .nil], ty := (.slice (.slice tKey)) }),
  (115, { und := .slice 177, size := 1, bytes := 24, zero := [.sl .nil], ty := (.slice tRootKey) }),
  (117, { und := .struct [(0, 2), (1, 2), (2, 114), (3, 115)], size := 4, bytes := 64, zero := [.int .i64 0, .int .i64 0, .sl .nil, .sl .nil], ty := tClip }),
  (120, { und := .struct [(0, 2), (1, 2), (2, 4)], size := 3, bytes := 24, zero := [.int .i64 0, .int .i64 0, .bool false], ty := tState }),
  (122, { und := .struct [(0, 2), (1, 2), (2, 2), (3, 2), (4, 53), (5, 2)], size := 6, bytes := 48, zero := [.int .i64 0, .int .i64 0, .int .i64 0, .int .i64 0, .flt .f32 0, .int .i64 0], ty := tRule }),
  (124, { und := .other, size := 1, bytes := 8, zero := [.undef], ty := .unit }),
  (132, { und := .other, size := 1, bytes := 8, zero := [.pnil], ty := .unit }),
  (135, { und := .slice 2, size := 1, bytes := 24, zero := [.sl .nil], ty := (.slice (.int .i64)) }),
  (141, { und := .struct [(0, 53), (1, 53), (2, 53), (3, 53)], size := 4, bytes := 16, zero := [.flt .f32 0, .flt .f32 0, .flt .f32 0, .flt .f32 0], ty := tTurn }),
  (155, { und := .slice 168, size := 1, bytes := 24, zero := [.sl .nil], ty := (.slice tKey) }),
  (160, { und := .other, size := 1, bytes := 8, zero := [.undef], ty := .unit }),
  (161, { und := .other, size := 1, bytes := 8, zero := [.undef], ty := .unit }),
  (162, { und := .other, size := 1, bytes := 8, zero := [.undef], ty := .unit }),
  (164, { und := .struct [(0, 160), (1, 161), (2, 162)], size := 3, bytes := 24, zero := [.undef, .undef, .undef], ty := .unit }),
  (168, { und := .struct [(0, 2), (1, 141)], size := 5, bytes := 24, zero := [.int .i64 0, .flt .f32 0, .flt .f32 0, .flt .f32 0, .flt .f32 0], ty := tKey }),
  (169, { und := .other, size := 1, bytes := 8, zero := [.undef], ty := .unit }),
  (170, { und := .other, size := 1, bytes := 8, zero := [.undef], ty := .unit }),
  (171, { und := .other, size := 1, bytes := 8, zero := [.undef], ty := .unit }),
  (173, { und := .struct [(0, 169), (1, 170), (2, 171)], size := 3, bytes := 24, zero := [.undef, .undef, .undef], ty := .unit }),
  (177, { und := .struct [(0, 2), (1, 97)], size := 4, bytes := 24, zero := [.int .i64 0, .flt .f32 0, .flt .f32 0, .flt .f32 0], ty := tRootKey }),
  (195, { und := .slice 214, size := 1, bytes := 24, zero := [.sl .nil], ty := (.slice tKey) }),
  (198, { und := .struct [(0, 53), (1, 53), (2, 53)], size := 3, bytes := 12, zero := [.flt .f32 0, .flt .f32 0, .flt .f32 0], ty := tVec }),
  (200, { und := .struct [(0, 2), (1, 198)], size := 4, bytes := 24, zero := [.int .i64 0, .flt .f32 0, .flt .f32 0, .flt .f32 0], ty := tRootKey }),
  (212, { und := .struct [(0, 53), (1, 53), (2, 53), (3, 53)], size := 4, bytes := 16, zero := [.flt .f32 0, .flt .f32 0, .flt .f32 0, .flt .f32 0], ty := tTurn }),
  (214, { und := .struct [(0, 2), (1, 212)], size := 5, bytes := 24, zero := [.int .i64 0, .flt .f32 0, .flt .f32 0, .flt .f32 0, .flt .f32 0], ty := tKey })]
theorem tab_ok : TabOK Try.prog (lookT tab) := tabB_spec (by kernel_rfl)
theorem mixed : Try.prog.follows .mixedOrders = true := by kernel_rfl
def E_w_szKeyS : Tabs := (mkE tab [] [])
set_option maxRecDepth 4000 in
theorem ek_w_szKeyS : EnvOK Try.prog E_w_szKeyS := (mkE_ok tab_ok mixed AllF.nil AllX.nil)
theorem ev_w_szKeyS (a : (List dKey)) (left : Int) : evalF E_w_szKeyS noL Try.f121 [.ro false (.slice tKey), .ro false (.int .i64)] (.one false (.int .i64)) (a, left, ()) = g_w_szKeyS a left := by kernel_rfl
def m_w_szKeyS : FM := { ps := [.ro false (.slice tKey), .ro false (.int .i64)], res := .one false (.int .i64), run := fun x => some (t_w_szKeyS x.1 x.2.1) }
set_option maxRecDepth 4000 in
theorem ok_w_szKeyS : FmOK Try.prog 121 m_w_szKeyS := @FmOK.made Try.prog E_w_szKeyS ek_w_szKeyS 121 Try.f121 noL m_w_szKeyS Try.func121 (by kernel_rfl) (Loops.none (by kernel_rfl)) fun ds out _ hr => by obtain ⟨a, left, ⟨⟩⟩ := ds; exact (ev_w_szKeyS a left).trans ((q_w_szKeyS a left).trans hr)

def E_w_szKeySS : Tabs := (mkE tab [(121, m_w_szKeyS)] [])
set_option maxRecDepth 4000 in
theorem ek_w_szKeySS : EnvOK Try.prog E_w_szKeySS := (mkE_ok tab_ok mixed (AllF.cons ok_w_szKeyS AllF.nil) AllX.nil)
def lm_L_w_szKeySS_1 : LM := { mat := [], head := { slots := [(0, .dat false (.slice (.slice tKey))), (1, .dat false (.int .i64)), (4, .dat false (.int .i64)), (5, .dat false (.int .i64))], blks := [] }, out := { slots := [(1, .dat false (.int .i64)), (4, .dat false (.int .i64))], blks := [] }, ex := 0, rets := true, run := iter L_w_szKeySS_1 fuel }
def ll_w_szKeySS : List (Nat × LP) := [(5, .lm lm_L_w_szKeySS_1)]
theorem rd_L_w_szKeySS_1 (rec' : ((List (List dKey)) × Int × Int × Int × Unit) × (Unit) → Option (Bool × ((Int × Int × Unit) × (Unit)))) (a : (List (List dKey))) (left : Int) (t4 : Int) (i : Int) : round E_w_szKeySS (lookL ll_w_szKeySS) lm_L_w_szKeySS_1 27 (loopAt Try.f90 0) rec' ((a, left, t4, i, ()), (())) = L_w_szKeySS_1 rec' ((a, left, t4, i, ()), (())) := by kernel_rfl
theorem lo_w_szKeySS : Loops E_w_szKeySS (lookL ll_w_szKeySS) Try.f90 := Loops.list (by kernel_rfl) (by kernel_rfl) ⟨LoopOK.iter (step := L_w_szKeySS_1) (N := fun _ => fuel) (fun rec' x => by obtain ⟨⟨a, left, t4, i, ⟨⟩⟩, ⟨⟨⟩⟩⟩ := x; exact rd_L_w_szKeySS_1 rec' a left t4 i) fun _ => rfl, trivial⟩
theorem ev_w_szKeySS (a : (List (List dKey))) (left : Int) : evalF E_w_szKeySS (lookL ll_w_szKeySS) Try.f90 [.ro false (.slice (.slice tKey)), .ro false (.int .i64)] (.one false (.int .i64)) (a, left, ()) = g_w_szKeySS a left := by kernel_rfl
def m_w_szKeySS : FM := { ps := [.ro false (.slice (.slice tKey)), .ro false (.int .i64)], res := .one false (.int .i64), run := fun x => g_w_szKeySS x.1 x.2.1 }
set_option maxRecDepth 4000 in
theorem ok_w_szKeySS : FmOK Try.prog 90 m_w_szKeySS := @FmOK.made Try.prog E_w_szKeySS ek_w_szKeySS 90 Try.f90 (lookL ll_w_szKeySS) m_w_szKeySS Try.func90 (by kernel_rfl) lo_w_szKeySS fun ds out _ hr => by obtain ⟨a, left, ⟨⟩⟩ := ds; exact (ev_w_szKeySS a left).trans hr

def E_w_szRootKeyS : Tabs := (mkE tab [] [])
set_option maxRecDepth 4000 in
theorem ek_w_szRootKeyS : EnvOK Try.prog E_w_szRootKeyS := (mkE_ok tab_ok mixed AllF.nil AllX.nil)
theorem ev_w_szRootKeyS (a : (List dRootKey)) (left : Int) : evalF E_w_szRootKeyS noL Try.f91 [.ro false (.slice tRootKey), .ro false (.int .i64)] (.one false (.int .i64)) (a, left, ()) = g_w_szRootKeyS a left := by kernel_rfl
def m_w_szRootKeyS : FM := { ps := [.ro false (.slice tRootKey), .ro false (.int .i64)], res := .one false (.int .i64), run := fun x => some (t_w_szRootKeyS x.1 x.2.1) }
set_option maxRecDepth 4000 in
theorem ok_w_szRootKeyS : FmOK Try.prog 91 m_w_szRootKeyS := @FmOK.made Try.prog E_w_szRootKeyS ek_w_szRootKeyS 91 Try.f91 noL m_w_szRootKeyS Try.func91 (by kernel_rfl) (Loops.none (by kernel_rfl)) fun ds out _ hr => by obtain ⟨a, left, ⟨⟩⟩ := ds; exact (ev_w_szRootKeyS a left).trans ((q_w_szRootKeyS a left).trans hr)

def E_w_szClip : Tabs := (mkE tab [(90, m_w_szKeySS), (91, m_w_szRootKeyS)] [])
set_option maxRecDepth 4000 in
theorem ek_w_szClip : EnvOK Try.prog E_w_szClip := (mkE_ok tab_ok mixed (AllF.cons ok_w_szKeySS (AllF.cons ok_w_szRootKeyS AllF.nil)) AllX.nil)
theorem ev_w_szClip (a : dClip) (left : Int) : evalF E_w_szClip noL Try.f59 [.ro true tClip, .ro false (.int .i64)] (.one false (.int .i64)) (a, left, ()) = g_w_szClip a left := by kernel_rfl
def m_w_szClip : FM := { ps := [.ro true tClip, .ro false (.int .i64)], res := .one false (.int .i64), run := fun x => g_w_szClip x.1 x.2.1 }
set_option maxRecDepth 4000 in
theorem ok_w_szClip : FmOK Try.prog 59 m_w_szClip := @FmOK.made Try.prog E_w_szClip ek_w_szClip 59 Try.f59 noL m_w_szClip Try.func59 (by kernel_rfl) (Loops.none (by kernel_rfl)) fun ds out _ hr => by obtain ⟨a, left, ⟨⟩⟩ := ds; exact (ev_w_szClip a left).trans hr

def E_w_szClipS : Tabs := (mkE tab [(59, m_w_szClip)] [])
set_option maxRecDepth 4000 in
theorem ek_w_szClipS : EnvOK Try.prog E_w_szClipS := (mkE_ok tab_ok mixed (AllF.cons ok_w_szClip AllF.nil) AllX.nil)
def lm_L_w_szClipS_1 : LM := { mat := [], head := { slots := [(0, .dat false (.slice tClip)), (1, .dat false (.int .i64)), (4, .dat false (.int .i64)), (5, .dat false (.int .i64))], blks := [] }, out := { slots := [(1, .dat false (.int .i64)), (4, .dat false (.int .i64))], blks := [] }, ex := 0, rets := true, run := iter L_w_szClipS_1 fuel }
def ll_w_szClipS : List (Nat × LP) := [(5, .lm lm_L_w_szClipS_1)]
theorem rd_L_w_szClipS_1 (rec' : ((List dClip) × Int × Int × Int × Unit) × (Unit) → Option (Bool × ((Int × Int × Unit) × (Unit)))) (a : (List dClip)) (left : Int) (t4 : Int) (i : Int) : round E_w_szClipS (lookL ll_w_szClipS) lm_L_w_szClipS_1 27 (loopAt Try.f29 0) rec' ((a, left, t4, i, ()), (())) = L_w_szClipS_1 rec' ((a, left, t4, i, ()), (())) := by kernel_rfl
theorem lo_w_szClipS : Loops E_w_szClipS (lookL ll_w_szClipS) Try.f29 := Loops.list (by kernel_rfl) (by kernel_rfl) ⟨LoopOK.iter (step := L_w_szClipS_1) (N := fun _ => fuel) (fun rec' x => by obtain ⟨⟨a, left, t4, i, ⟨⟩⟩, ⟨⟨⟩⟩⟩ := x; exact rd_L_w_szClipS_1 rec' a left t4 i) fun _ => rfl, trivial⟩
theorem ev_w_szClipS (a : (List dClip)) (left : Int) : evalF E_w_szClipS (lookL ll_w_szClipS) Try.f29 [.ro false (.slice tClip), .ro false (.int .i64)] (.one false (.int .i64)) (a, left, ()) = g_w_szClipS a left := by kernel_rfl
def m_w_szClipS : FM := { ps := [.ro false (.slice tClip), .ro false (.int .i64)], res := .one false (.int .i64), run := fun x => g_w_szClipS x.1 x.2.1 }
set_option maxRecDepth 4000 in
theorem ok_w_szClipS : FmOK Try.prog 29 m_w_szClipS := @FmOK.made Try.prog E_w_szClipS ek_w_szClipS 29 Try.f29 (lookL ll_w_szClipS) m_w_szClipS Try.func29 (by kernel_rfl) lo_w_szClipS fun ds out _ hr => by obtain ⟨a, left, ⟨⟩⟩ := ds; exact (ev_w_szClipS a left).trans hr

def E_w_szStateS : Tabs := (mkE tab [] [])
set_option maxRecDepth 4000 in
theorem ek_w_szStateS : EnvOK Try.prog E_w_szStateS := (mkE_ok tab_ok mixed AllF.nil AllX.nil)
theorem ev_w_szStateS (a : (List dState)) (left : Int) : evalF E_w_szStateS noL Try.f30 [.ro false (.slice tState), .ro false (.int .i64)] (.one false (.int .i64)) (a, left, ()) = g_w_szStateS a left := by kernel_rfl
def m_w_szStateS : FM := { ps := [.ro false (.slice tState), .ro false (.int .i64)], res := .one false (.int .i64), run := fun x => some (t_w_szStateS x.1 x.2.1) }
set_option maxRecDepth 4000 in
theorem ok_w_szStateS : FmOK Try.prog 30 m_w_szStateS := @FmOK.made Try.prog E_w_szStateS ek_w_szStateS 30 Try.f30 noL m_w_szStateS Try.func30 (by kernel_rfl) (Loops.none (by kernel_rfl)) fun ds out _ hr => by obtain ⟨a, left, ⟨⟩⟩ := ds; exact (ev_w_szStateS a left).trans ((q_w_szStateS a left).trans hr)

def E_w_szRuleS : Tabs := (mkE tab [] [])
set_option maxRecDepth 4000 in
theorem ek_w_szRuleS : EnvOK Try.prog E_w_szRuleS := (mkE_ok tab_ok mixed AllF.nil AllX.nil)
theorem ev_w_szRuleS (a : (List dRule)) (left : Int) : evalF E_w_szRuleS noL Try.f31 [.ro false (.slice tRule), .ro false (.int .i64)] (.one false (.int .i64)) (a, left, ()) = g_w_szRuleS a left := by kernel_rfl
def m_w_szRuleS : FM := { ps := [.ro false (.slice tRule), .ro false (.int .i64)], res := .one false (.int .i64), run := fun x => some (t_w_szRuleS x.1 x.2.1) }
set_option maxRecDepth 4000 in
theorem ok_w_szRuleS : FmOK Try.prog 31 m_w_szRuleS := @FmOK.made Try.prog E_w_szRuleS ek_w_szRuleS 31 Try.f31 noL m_w_szRuleS Try.func31 (by kernel_rfl) (Loops.none (by kernel_rfl)) fun ds out _ hr => by obtain ⟨a, left, ⟨⟩⟩ := ds; exact (ev_w_szRuleS a left).trans ((q_w_szRuleS a left).trans hr)

def E_w_szMachine : Tabs := (mkE tab [(29, m_w_szClipS), (30, m_w_szStateS), (31, m_w_szRuleS)] [])
set_option maxRecDepth 4000 in
theorem ek_w_szMachine : EnvOK Try.prog E_w_szMachine := (mkE_ok tab_ok mixed (AllF.cons ok_w_szClipS (AllF.cons ok_w_szStateS (AllF.cons ok_w_szRuleS AllF.nil))) AllX.nil)
theorem ev_w_szMachine (a : dMachine) (left : Int) : evalF E_w_szMachine noL Try.f8 [.ro true tMachine, .ro false (.int .i64)] (.one false (.int .i64)) (a, left, ()) = g_w_szMachine a left := by kernel_rfl
def m_w_szMachine : FM := { ps := [.ro true tMachine, .ro false (.int .i64)], res := .one false (.int .i64), run := fun x => g_w_szMachine x.1 x.2.1 }
set_option maxRecDepth 4000 in
theorem ok_w_szMachine : FmOK Try.prog 8 m_w_szMachine := @FmOK.made Try.prog E_w_szMachine ek_w_szMachine 8 Try.f8 noL m_w_szMachine Try.func8 (by kernel_rfl) (Loops.none (by kernel_rfl)) fun ds out _ hr => by obtain ⟨a, left, ⟨⟩⟩ := ds; exact (ev_w_szMachine a left).trans hr

def E_w_toTurn : Tabs := (mkE tab [] [])
set_option maxRecDepth 4000 in
theorem ek_w_toTurn : EnvOK Try.prog E_w_toTurn := (mkE_ok tab_ok mixed AllF.nil AllX.nil)
theorem ev_w_toTurn (a : dTurn) : evalF E_w_toTurn noL Try.f152 [.ro true tTurn] (.one true tTurn) (a, ()) = g_w_toTurn a := by kernel_rfl
def m_w_toTurn : FM := { ps := [.ro true tTurn], res := .one true tTurn, run := fun x => some (t_w_toTurn x.1) }
set_option maxRecDepth 4000 in
theorem ok_w_toTurn : FmOK Try.prog 152 m_w_toTurn := @FmOK.made Try.prog E_w_toTurn ek_w_toTurn 152 Try.f152 noL m_w_toTurn Try.func152 (by kernel_rfl) (Loops.none (by kernel_rfl)) fun ds out _ hr => by obtain ⟨a, ⟨⟩⟩ := ds; exact (ev_w_toTurn a).trans ((q_w_toTurn a).trans hr)

def E_w_toKey : Tabs := (mkE tab [(152, m_w_toTurn)] [])
set_option maxRecDepth 4000 in
theorem ek_w_toKey : EnvOK Try.prog E_w_toKey := (mkE_ok tab_ok mixed (AllF.cons ok_w_toTurn AllF.nil) AllX.nil)
theorem ev_w_toKey (a : dKey) : evalF E_w_toKey noL Try.f142 [.ro true tKey] (.one true tKey) (a, ()) = g_w_toKey a := by kernel_rfl
def m_w_toKey : FM := { ps := [.ro true tKey], res := .one true tKey, run := fun x => some (t_w_toKey x.1) }
set_option maxRecDepth 4000 in
theorem ok_w_toKey : FmOK Try.prog 142 m_w_toKey := @FmOK.made Try.prog E_w_toKey ek_w_toKey 142 Try.f142 noL m_w_toKey Try.func142 (by kernel_rfl) (Loops.none (by kernel_rfl)) fun ds out _ hr => by obtain ⟨a, ⟨⟩⟩ := ds; exact (ev_w_toKey a).trans ((q_w_toKey a).trans hr)

def E_w_toKeyS : Tabs := (mkE tab [(142, m_w_toKey)] [])
set_option maxRecDepth 4000 in
theorem ek_w_toKeyS : EnvOK Try.prog E_w_toKeyS := (mkE_ok tab_ok mixed (AllF.cons ok_w_toKey AllF.nil) AllX.nil)
def lm_L_w_toKeyS_1 : LM := { mat := [], head := { slots := [(0, .dat false (.slice tKey)), (3, .cst (.sl (.row 0))), (4, .dat false (.int .i64))], blks := [.row false tKey] }, out := { slots := [(3, .cst (.sl (.row 0)))], blks := [.row false tKey] }, ex := 0, rets := false, run := iter L_w_toKeyS_1 fuel }
def ll_w_toKeyS : List (Nat × LP) := [(3, .lm lm_L_w_toKeyS_1)]
theorem rd_L_w_toKeyS_1 (rec' : ((List dKey) × Int × Unit) × ((List dKey) × Unit) → Option ((Unit) × ((List dKey) × Unit))) (a : (List dKey)) (i : Int) (r0 : (List dKey)) : round E_w_toKeyS (lookL ll_w_toKeyS) lm_L_w_toKeyS_1 23 (loopAt Try.f122 0) rec' ((a, i, ()), (r0, ())) = L_w_toKeyS_1 rec' ((a, i, ()), (r0, ())) := by kernel_rfl
theorem lo_w_toKeyS : Loops E_w_toKeyS (lookL ll_w_toKeyS) Try.f122 := Loops.list (by kernel_rfl) (by kernel_rfl) ⟨LoopOK.iter (step := L_w_toKeyS_1) (N := fun _ => fuel) (fun rec' x => by obtain ⟨⟨a, i, ⟨⟩⟩, ⟨r0, ⟨⟩⟩⟩ := x; exact rd_L_w_toKeyS_1 rec' a i r0) fun _ => rfl, trivial⟩
theorem ev_w_toKeyS (a : (List dKey)) : evalF E_w_toKeyS (lookL ll_w_toKeyS) Try.f122 [.ro false (.slice tKey)] (.one false (.slice tKey)) (a, ()) = g_w_toKeyS a := by kernel_rfl
def m_w_toKeyS : FM := { ps := [.ro false (.slice tKey)], res := .one false (.slice tKey), run := fun x => g_w_toKeyS x.1 }
set_option maxRecDepth 4000 in
theorem ok_w_toKeyS : FmOK Try.prog 122 m_w_toKeyS := @FmOK.made Try.prog E_w_toKeyS ek_w_toKeyS 122 Try.f122 (lookL ll_w_toKeyS) m_w_toKeyS Try.func122 (by kernel_rfl) lo_w_toKeyS fun ds out _ hr => by obtain ⟨a, ⟨⟩⟩ := ds; exact (ev_w_toKeyS a).trans hr

def E_w_toKeySS : Tabs := (mkE tab [(122, m_w_toKeyS)] [])
set_option maxRecDepth 4000 in
theorem ek_w_toKeySS : EnvOK Try.prog E_w_toKeySS := (mkE_ok tab_ok mixed (AllF.cons ok_w_toKeyS AllF.nil) AllX.nil)
def lm_L_w_toKeySS_1 : LM := { mat := [], head := { slots := [(0, .dat false (.slice (.slice tKey))), (3, .cst (.sl (.row 0))), (4, .dat false (.int .i64))], blks := [.row false (.slice tKey)] }, out := { slots := [(3, .cst (.sl (.row 0)))], blks := [.row false (.slice tKey)] }, ex := 0, rets := false, run := iter L_w_toKeySS_1 fuel }
def ll_w_toKeySS : List (Nat × LP) := [(3, .lm lm_L_w_toKeySS_1)]
theorem rd_L_w_toKeySS_1 (rec' : ((List (List dKey)) × Int × Unit) × ((List (List dKey)) × Unit) → Option ((Unit) × ((List (List dKey)) × Unit))) (a : (List (List dKey))) (i : Int) (r0 : (List (List dKey))) : round E_w_toKeySS (lookL ll_w_toKeySS) lm_L_w_toKeySS_1 23 (loopAt Try.f95 0) rec' ((a, i, ()), (r0, ())) = L_w_toKeySS_1 rec' ((a, i, ()), (r0, ())) := by kernel_rfl
theorem lo_w_toKeySS : Loops E_w_toKeySS (lookL ll_w_toKeySS) Try.f95 := Loops.list (by kernel_rfl) (by kernel_rfl) ⟨LoopOK.iter (step := L_w_toKeySS_1) (N := fun _ => fuel) (fun rec' x => by obtain ⟨⟨a, i, ⟨⟩⟩, ⟨r0, ⟨⟩⟩⟩ := x; exact rd_L_w_toKeySS_1 rec' a i r0) fun _ => rfl, trivial⟩
theorem ev_w_toKeySS (a : (List (List dKey))) : evalF E_w_toKeySS (lookL ll_w_toKeySS) Try.f95 [.ro false (.slice (.slice tKey))] (.one false (.slice (.slice tKey))) (a, ()) = g_w_toKeySS a := by kernel_rfl
def m_w_toKeySS : FM := { ps := [.ro false (.slice (.slice tKey))], res := .one false (.slice (.slice tKey)), run := fun x => g_w_toKeySS x.1 }
set_option maxRecDepth 4000 in
theorem ok_w_toKeySS : FmOK Try.prog 95 m_w_toKeySS := @FmOK.made Try.prog E_w_toKeySS ek_w_toKeySS 95 Try.f95 (lookL ll_w_toKeySS) m_w_toKeySS Try.func95 (by kernel_rfl) lo_w_toKeySS fun ds out _ hr => by obtain ⟨a, ⟨⟩⟩ := ds; exact (ev_w_toKeySS a).trans hr

def E_w_toVector : Tabs := (mkE tab [] [])
set_option maxRecDepth 4000 in
theorem ek_w_toVector : EnvOK Try.prog E_w_toVector := (mkE_ok tab_ok mixed AllF.nil AllX.nil)
theorem ev_w_toVector (a : dVec) : evalF E_w_toVector noL Try.f143 [.ro true tVec] (.one true tVec) (a, ()) = g_w_toVector a := by kernel_rfl
def m_w_toVector : FM := { ps := [.ro true tVec], res := .one true tVec, run := fun x => some (t_w_toVector x.1) }
set_option maxRecDepth 4000 in
theorem ok_w_toVector : FmOK Try.prog 143 m_w_toVector := @FmOK.made Try.prog E_w_toVector ek_w_toVector 143 Try.f143 noL m_w_toVector Try.func143 (by kernel_rfl) (Loops.none (by kernel_rfl)) fun ds out _ hr => by obtain ⟨a, ⟨⟩⟩ := ds; exact (ev_w_toVector a).trans ((q_w_toVector a).trans hr)

def E_w_toRootKey : Tabs := (mkE tab [(143, m_w_toVector)] [])
set_option maxRecDepth 4000 in
theorem ek_w_toRootKey : EnvOK Try.prog E_w_toRootKey := (mkE_ok tab_ok mixed (AllF.cons ok_w_toVector AllF.nil) AllX.nil)
theorem ev_w_toRootKey (a : dRootKey) : evalF E_w_toRootKey noL Try.f123 [.ro true tRootKey] (.one true tRootKey) (a, ()) = g_w_toRootKey a := by kernel_rfl
def m_w_toRootKey : FM := { ps := [.ro true tRootKey], res := .one true tRootKey, run := fun x => some (t_w_toRootKey x.1) }
set_option maxRecDepth 4000 in
theorem ok_w_toRootKey : FmOK Try.prog 123 m_w_toRootKey := @FmOK.made Try.prog E_w_toRootKey ek_w_toRootKey 123 Try.f123 noL m_w_toRootKey Try.func123 (by kernel_rfl) (Loops.none (by kernel_rfl)) fun ds out _ hr => by obtain ⟨a, ⟨⟩⟩ := ds; exact (ev_w_toRootKey a).trans ((q_w_toRootKey a).trans hr)

def E_w_toRootKeyS : Tabs := (mkE tab [(123, m_w_toRootKey)] [])
set_option maxRecDepth 4000 in
theorem ek_w_toRootKeyS : EnvOK Try.prog E_w_toRootKeyS := (mkE_ok tab_ok mixed (AllF.cons ok_w_toRootKey AllF.nil) AllX.nil)
def lm_L_w_toRootKeyS_1 : LM := { mat := [], head := { slots := [(0, .dat false (.slice tRootKey)), (3, .cst (.sl (.row 0))), (4, .dat false (.int .i64))], blks := [.row false tRootKey] }, out := { slots := [(3, .cst (.sl (.row 0)))], blks := [.row false tRootKey] }, ex := 0, rets := false, run := iter L_w_toRootKeyS_1 fuel }
def ll_w_toRootKeyS : List (Nat × LP) := [(3, .lm lm_L_w_toRootKeyS_1)]
theorem rd_L_w_toRootKeyS_1 (rec' : ((List dRootKey) × Int × Unit) × ((List dRootKey) × Unit) → Option ((Unit) × ((List dRootKey) × Unit))) (a : (List dRootKey)) (i : Int) (r0 : (List dRootKey)) : round E_w_toRootKeyS (lookL ll_w_toRootKeyS) lm_L_w_toRootKeyS_1 23 (loopAt Try.f96 0) rec' ((a, i, ()), (r0, ())) = L_w_toRootKeyS_1 rec' ((a, i, ()), (r0, ())) := by kernel_rfl
theorem lo_w_toRootKeyS : Loops E_w_toRootKeyS (lookL ll_w_toRootKeyS) Try.f96 := Loops.list (by kernel_rfl) (by kernel_rfl) ⟨LoopOK.iter (step := L_w_toRootKeyS_1) (N := fun _ => fuel) (fun rec' x => by obtain ⟨⟨a, i, ⟨⟩⟩, ⟨r0, ⟨⟩⟩⟩ := x; exact rd_L_w_toRootKeyS_1 rec' a i r0) fun _ => rfl, trivial⟩
theorem ev_w_toRootKeyS (a : (List dRootKey)) : evalF E_w_toRootKeyS (lookL ll_w_toRootKeyS) Try.f96 [.ro false (.slice tRootKey)] (.one false (.slice tRootKey)) (a, ()) = g_w_toRootKeyS a := by kernel_rfl
def m_w_toRootKeyS : FM := { ps := [.ro false (.slice tRootKey)], res := .one false (.slice tRootKey), run := fun x => g_w_toRootKeyS x.1 }
set_option maxRecDepth 4000 in
theorem ok_w_toRootKeyS : FmOK Try.prog 96 m_w_toRootKeyS := @FmOK.made Try.prog E_w_toRootKeyS ek_w_toRootKeyS 96 Try.f96 (lookL ll_w_toRootKeyS) m_w_toRootKeyS Try.func96 (by kernel_rfl) lo_w_toRootKeyS fun ds out _ hr => by obtain ⟨a, ⟨⟩⟩ := ds; exact (ev_w_toRootKeyS a).trans hr

def E_w_toClip : Tabs := (mkE tab [(95, m_w_toKeySS), (96, m_w_toRootKeyS)] [])
set_option maxRecDepth 4000 in
theorem ek_w_toClip : EnvOK Try.prog E_w_toClip := (mkE_ok tab_ok mixed (AllF.cons ok_w_toKeySS (AllF.cons ok_w_toRootKeyS AllF.nil)) AllX.nil)
theorem ev_w_toClip (a : dClip) : evalF E_w_toClip noL Try.f61 [.ro true tClip] (.one true tClip) (a, ()) = g_w_toClip a := by kernel_rfl
def m_w_toClip : FM := { ps := [.ro true tClip], res := .one true tClip, run := fun x => g_w_toClip x.1 }
set_option maxRecDepth 4000 in
theorem ok_w_toClip : FmOK Try.prog 61 m_w_toClip := @FmOK.made Try.prog E_w_toClip ek_w_toClip 61 Try.f61 noL m_w_toClip Try.func61 (by kernel_rfl) (Loops.none (by kernel_rfl)) fun ds out _ hr => by obtain ⟨a, ⟨⟩⟩ := ds; exact (ev_w_toClip a).trans hr

def E_w_toClipS : Tabs := (mkE tab [(61, m_w_toClip)] [])
set_option maxRecDepth 4000 in
theorem ek_w_toClipS : EnvOK Try.prog E_w_toClipS := (mkE_ok tab_ok mixed (AllF.cons ok_w_toClip AllF.nil) AllX.nil)
def lm_L_w_toClipS_1 : LM := { mat := [], head := { slots := [(0, .dat false (.slice tClip)), (3, .cst (.sl (.row 0))), (4, .dat false (.int .i64))], blks := [.row false tClip] }, out := { slots := [(3, .cst (.sl (.row 0)))], blks := [.row false tClip] }, ex := 0, rets := false, run := iter L_w_toClipS_1 fuel }
def ll_w_toClipS : List (Nat × LP) := [(3, .lm lm_L_w_toClipS_1)]
theorem rd_L_w_toClipS_1 (rec' : ((List dClip) × Int × Unit) × ((List dClip) × Unit) → Option ((Unit) × ((List dClip) × Unit))) (a : (List dClip)) (i : Int) (r0 : (List dClip)) : round E_w_toClipS (lookL ll_w_toClipS) lm_L_w_toClipS_1 23 (loopAt Try.f33 0) rec' ((a, i, ()), (r0, ())) = L_w_toClipS_1 rec' ((a, i, ()), (r0, ())) := by kernel_rfl
theorem lo_w_toClipS : Loops E_w_toClipS (lookL ll_w_toClipS) Try.f33 := Loops.list (by kernel_rfl) (by kernel_rfl) ⟨LoopOK.iter (step := L_w_toClipS_1) (N := fun _ => fuel) (fun rec' x => by obtain ⟨⟨a, i, ⟨⟩⟩, ⟨r0, ⟨⟩⟩⟩ := x; exact rd_L_w_toClipS_1 rec' a i r0) fun _ => rfl, trivial⟩
theorem ev_w_toClipS (a : (List dClip)) : evalF E_w_toClipS (lookL ll_w_toClipS) Try.f33 [.ro false (.slice tClip)] (.one false (.slice tClip)) (a, ()) = g_w_toClipS a := by kernel_rfl
def m_w_toClipS : FM := { ps := [.ro false (.slice tClip)], res := .one false (.slice tClip), run := fun x => g_w_toClipS x.1 }
set_option maxRecDepth 4000 in
theorem ok_w_toClipS : FmOK Try.prog 33 m_w_toClipS := @FmOK.made Try.prog E_w_toClipS ek_w_toClipS 33 Try.f33 (lookL ll_w_toClipS) m_w_toClipS Try.func33 (by kernel_rfl) lo_w_toClipS fun ds out _ hr => by obtain ⟨a, ⟨⟩⟩ := ds; exact (ev_w_toClipS a).trans hr

def E_w_toState : Tabs := (mkE tab [] [])
set_option maxRecDepth 4000 in
theorem ek_w_toState : EnvOK Try.prog E_w_toState := (mkE_ok tab_ok mixed AllF.nil AllX.nil)
theorem ev_w_toState (a : dState) : evalF E_w_toState noL Try.f62 [.ro true tState] (.one true tState) (a, ()) = g_w_toState a := by kernel_rfl
def m_w_toState : FM := { ps := [.ro true tState], res := .one true tState, run := fun x => some (t_w_toState x.1) }
set_option maxRecDepth 4000 in
theorem ok_w_toState : FmOK Try.prog 62 m_w_toState := @FmOK.made Try.prog E_w_toState ek_w_toState 62 Try.f62 noL m_w_toState Try.func62 (by kernel_rfl) (Loops.none (by kernel_rfl)) fun ds out _ hr => by obtain ⟨a, ⟨⟩⟩ := ds; exact (ev_w_toState a).trans ((q_w_toState a).trans hr)

def E_w_toStateS : Tabs := (mkE tab [(62, m_w_toState)] [])
set_option maxRecDepth 4000 in
theorem ek_w_toStateS : EnvOK Try.prog E_w_toStateS := (mkE_ok tab_ok mixed (AllF.cons ok_w_toState AllF.nil) AllX.nil)
def lm_L_w_toStateS_1 : LM := { mat := [], head := { slots := [(0, .dat false (.slice tState)), (3, .cst (.sl (.row 0))), (4, .dat false (.int .i64))], blks := [.row false tState] }, out := { slots := [(3, .cst (.sl (.row 0)))], blks := [.row false tState] }, ex := 0, rets := false, run := iter L_w_toStateS_1 fuel }
def ll_w_toStateS : List (Nat × LP) := [(3, .lm lm_L_w_toStateS_1)]
theorem rd_L_w_toStateS_1 (rec' : ((List dState) × Int × Unit) × ((List dState) × Unit) → Option ((Unit) × ((List dState) × Unit))) (a : (List dState)) (i : Int) (r0 : (List dState)) : round E_w_toStateS (lookL ll_w_toStateS) lm_L_w_toStateS_1 23 (loopAt Try.f34 0) rec' ((a, i, ()), (r0, ())) = L_w_toStateS_1 rec' ((a, i, ()), (r0, ())) := by kernel_rfl
theorem lo_w_toStateS : Loops E_w_toStateS (lookL ll_w_toStateS) Try.f34 := Loops.list (by kernel_rfl) (by kernel_rfl) ⟨LoopOK.iter (step := L_w_toStateS_1) (N := fun _ => fuel) (fun rec' x => by obtain ⟨⟨a, i, ⟨⟩⟩, ⟨r0, ⟨⟩⟩⟩ := x; exact rd_L_w_toStateS_1 rec' a i r0) fun _ => rfl, trivial⟩
theorem ev_w_toStateS (a : (List dState)) : evalF E_w_toStateS (lookL ll_w_toStateS) Try.f34 [.ro false (.slice tState)] (.one false (.slice tState)) (a, ()) = g_w_toStateS a := by kernel_rfl
def m_w_toStateS : FM := { ps := [.ro false (.slice tState)], res := .one false (.slice tState), run := fun x => g_w_toStateS x.1 }
set_option maxRecDepth 4000 in
theorem ok_w_toStateS : FmOK Try.prog 34 m_w_toStateS := @FmOK.made Try.prog E_w_toStateS ek_w_toStateS 34 Try.f34 (lookL ll_w_toStateS) m_w_toStateS Try.func34 (by kernel_rfl) lo_w_toStateS fun ds out _ hr => by obtain ⟨a, ⟨⟩⟩ := ds; exact (ev_w_toStateS a).trans hr

def E_w_toRule : Tabs := (mkE tab [] [])
set_option maxRecDepth 4000 in
theorem ek_w_toRule : EnvOK Try.prog E_w_toRule := (mkE_ok tab_ok mixed AllF.nil AllX.nil)
theorem ev_w_toRule (a : dRule) : evalF E_w_toRule noL Try.f63 [.ro true tRule] (.one true tRule) (a, ()) = g_w_toRule a := by kernel_rfl
def m_w_toRule : FM := { ps := [.ro true tRule], res := .one true tRule, run := fun x => some (t_w_toRule x.1) }
set_option maxRecDepth 4000 in
theorem ok_w_toRule : FmOK Try.prog 63 m_w_toRule := @FmOK.made Try.prog E_w_toRule ek_w_toRule 63 Try.f63 noL m_w_toRule Try.func63 (by kernel_rfl) (Loops.none (by kernel_rfl)) fun ds out _ hr => by obtain ⟨a, ⟨⟩⟩ := ds; exact (ev_w_toRule a).trans ((q_w_toRule a).trans hr)

def E_w_toRuleS : Tabs := (mkE tab [(63, m_w_toRule)] [])
set_option maxRecDepth 4000 in
theorem ek_w_toRuleS : EnvOK Try.prog E_w_toRuleS := (mkE_ok tab_ok mixed (AllF.cons ok_w_toRule AllF.nil) AllX.nil)
def lm_L_w_toRuleS_1 : LM := { mat := [], head := { slots := [(0, .dat false (.slice tRule)), (3, .cst (.sl (.row 0))), (4, .dat false (.int .i64))], blks := [.row false tRule] }, out := { slots := [(3, .cst (.sl (.row 0)))], blks := [.row false tRule] }, ex := 0, rets := false, run := iter L_w_toRuleS_1 fuel }
def ll_w_toRuleS : List (Nat × LP) := [(3, .lm lm_L_w_toRuleS_1)]
theorem rd_L_w_toRuleS_1 (rec' : ((List dRule) × Int × Unit) × ((List dRule) × Unit) → Option ((Unit) × ((List dRule) × Unit))) (a : (List dRule)) (i : Int) (r0 : (List dRule)) : round E_w_toRuleS (lookL ll_w_toRuleS) lm_L_w_toRuleS_1 23 (loopAt Try.f35 0) rec' ((a, i, ()), (r0, ())) = L_w_toRuleS_1 rec' ((a, i, ()), (r0, ())) := by kernel_rfl
theorem lo_w_toRuleS : Loops E_w_toRuleS (lookL ll_w_toRuleS) Try.f35 := Loops.list (by kernel_rfl) (by kernel_rfl) ⟨LoopOK.iter (step := L_w_toRuleS_1) (N := fun _ => fuel) (fun rec' x => by obtain ⟨⟨a, i, ⟨⟩⟩, ⟨r0, ⟨⟩⟩⟩ := x; exact rd_L_w_toRuleS_1 rec' a i r0) fun _ => rfl, trivial⟩
theorem ev_w_toRuleS (a : (List dRule)) : evalF E_w_toRuleS (lookL ll_w_toRuleS) Try.f35 [.ro false (.slice tRule)] (.one false (.slice tRule)) (a, ()) = g_w_toRuleS a := by kernel_rfl
def m_w_toRuleS : FM := { ps := [.ro false (.slice tRule)], res := .one false (.slice tRule), run := fun x => g_w_toRuleS x.1 }
set_option maxRecDepth 4000 in
theorem ok_w_toRuleS : FmOK Try.prog 35 m_w_toRuleS := @FmOK.made Try.prog E_w_toRuleS ek_w_toRuleS 35 Try.f35 (lookL ll_w_toRuleS) m_w_toRuleS Try.func35 (by kernel_rfl) lo_w_toRuleS fun ds out _ hr => by obtain ⟨a, ⟨⟩⟩ := ds; exact (ev_w_toRuleS a).trans hr

def E_w_toMachine : Tabs := (mkE tab [(33, m_w_toClipS), (34, m_w_toStateS), (35, m_w_toRuleS)] [])
set_option maxRecDepth 4000 in
theorem ek_w_toMachine : EnvOK Try.prog E_w_toMachine := (mkE_ok tab_ok mixed (AllF.cons ok_w_toClipS (AllF.cons ok_w_toStateS (AllF.cons ok_w_toRuleS AllF.nil))) AllX.nil)
theorem ev_w_toMachine (a : dMachine) : evalF E_w_toMachine noL Try.f10 [.ro true tMachine] (.one true tMachine) (a, ()) = g_w_toMachine a := by kernel_rfl
def m_w_toMachine : FM := { ps := [.ro true tMachine], res := .one true tMachine, run := fun x => g_w_toMachine x.1 }
set_option maxRecDepth 4000 in
theorem ok_w_toMachine : FmOK Try.prog 10 m_w_toMachine := @FmOK.made Try.prog E_w_toMachine ek_w_toMachine 10 Try.f10 noL m_w_toMachine Try.func10 (by kernel_rfl) (Loops.none (by kernel_rfl)) fun ds out _ hr => by obtain ⟨a, ⟨⟩⟩ := ds; exact (ev_w_toMachine a).trans hr

def E_s_l00In : Tabs := (mkE tab [] [])
set_option maxRecDepth 4000 in
theorem ek_s_l00In : EnvOK Try.prog E_s_l00In := (mkE_ok tab_ok mixed AllF.nil AllX.nil)
theorem ev_s_l00In (n : Int) (low : Int) (high : Int) : evalF E_s_l00In noL Try.f42 [.ro false (.int .i64), .ro false (.int .i64), .ro false (.int .i64)] (.one false .bool) (n, low, high, ()) = g_s_l00In n low high := by kernel_rfl
def m_s_l00In : FM := { ps := [.ro false (.int .i64), .ro false (.int .i64), .ro false (.int .i64)], res := .one false .bool, run := fun x => some (t_s_l00In x.1 x.2.1 x.2.2.1) }
set_option maxRecDepth 4000 in
theorem ok_s_l00In : FmOK Try.prog 42 m_s_l00In := @FmOK.made Try.prog E_s_l00In ek_s_l00In 42 Try.f42 noL m_s_l00In Try.func42 (by kernel_rfl) (Loops.none (by kernel_rfl)) fun ds out _ hr => by obtain ⟨n, low, high, ⟨⟩⟩ := ds; exact (ev_s_l00In n low high).trans ((q_s_l00In n low high).trans hr)

def E_s_l05At : Tabs := (mkE tab [] [])
set_option maxRecDepth 4000 in
theorem ek_s_l05At : EnvOK Try.prog E_s_l05At := (mkE_ok tab_ok mixed AllF.nil AllX.nil)
def lm_L_s_l05At_1 : LM := { mat := [], head := { slots := [(0, .dat false (.slice tKey)), (3, .cst (.sl (.row 0))), (7, .dat false (.int .i64)), (8, .dat false (.int .i64))], blks := [.row false (.int .i64)] }, out := { slots := [(3, .cst (.sl (.row 0)))], blks := [.row false (.int .i64)] }, ex := 0, rets := false, run := iter L_s_l05At_1 fuel }
def ll_s_l05At : List (Nat × LP) := [(3, .lm lm_L_s_l05At_1)]
theorem rd_L_s_l05At_1 (rec' : ((List dKey) × Int × Int × Unit) × ((List Int) × Unit) → Option ((Unit) × ((List Int) × Unit))) (track : (List dKey)) (t7 : Int) (t8 : Int) (r0 : (List Int)) : round E_s_l05At (lookL ll_s_l05At) lm_L_s_l05At_1 21 (loopAt Try.f93 0) rec' ((track, t7, t8, ()), (r0, ())) = L_s_l05At_1 rec' ((track, t7, t8, ()), (r0, ())) := by kernel_rfl
theorem lo_s_l05At : Loops E_s_l05At (lookL ll_s_l05At) Try.f93 := Loops.list (by kernel_rfl) (by kernel_rfl) ⟨LoopOK.iter (step := L_s_l05At_1) (N := fun _ => fuel) (fun rec' x => by obtain ⟨⟨track, t7, t8, ⟨⟩⟩, ⟨r0, ⟨⟩⟩⟩ := x; exact rd_L_s_l05At_1 rec' track t7 t8 r0) fun _ => rfl, trivial⟩
theorem ev_s_l05At (track : (List dKey)) : evalF E_s_l05At (lookL ll_s_l05At) Try.f93 [.ro false (.slice tKey)] (.one false (.slice (.int .i64))) (track, ()) = g_s_l05At track := by kernel_rfl
def m_s_l05At : FM := { ps := [.ro false (.slice tKey)], res := .one false (.slice (.int .i64)), run := fun x => g_s_l05At x.1 }
set_option maxRecDepth 4000 in
theorem ok_s_l05At : FmOK Try.prog 93 m_s_l05At := @FmOK.made Try.prog E_s_l05At ek_s_l05At 93 Try.f93 (lookL ll_s_l05At) m_s_l05At Try.func93 (by kernel_rfl) lo_s_l05At fun ds out _ hr => by obtain ⟨track, ⟨⟩⟩ := ds; exact (ev_s_l05At track).trans hr

def E_s_l05Times : Tabs := (mkE tab [(42, m_s_l00In)] [])
set_option maxRecDepth 4000 in
theorem ek_s_l05Times : EnvOK Try.prog E_s_l05Times := (mkE_ok tab_ok mixed (AllF.cons ok_s_l00In AllF.nil) AllX.nil)
def lm_L_s_l05Times_1 : LM := { mat := [], head := { slots := [(0, .dat false (.slice (.int .i64))), (1, .dat false (.int .i64)), (4, .dat false .bool), (7, .dat false (.int .i64)), (8, .dat false (.int .i64))], blks := [] }, out := { slots := [(0, .dat false (.slice (.int .i64))), (4, .dat false .bool)], blks := [] }, ex := 0, rets := true, run := iter L_s_l05Times_1 fuel }
def ll_s_l05Times : List (Nat × LP) := [(2, .lm lm_L_s_l05Times_1)]
theorem rd_L_s_l05Times_1 (rec' : ((List Int) × Int × Bool × Int × Int × Unit) × (Unit) → Option (Bool × (((List Int) × Bool × Unit) × (Unit)))) (list : (List Int)) (length : Int) (t4 : Bool) (t7 : Int) (t8 : Int) : round E_s_l05Times (lookL ll_s_l05Times) lm_L_s_l05Times_1 43 (loopAt Try.f92 0) rec' ((list, length, t4, t7, t8, ()), (())) = L_s_l05Times_1 rec' ((list, length, t4, t7, t8, ()), (())) := by kernel_rfl
theorem lo_s_l05Times : Loops E_s_l05Times (lookL ll_s_l05Times) Try.f92 := Loops.list (by kernel_rfl) (by kernel_rfl) ⟨LoopOK.iter (step := L_s_l05Times_1) (N := fun _ => fuel) (fun rec' x => by obtain ⟨⟨list, length, t4, t7, t8, ⟨⟩⟩, ⟨⟨⟩⟩⟩ := x; exact rd_L_s_l05Times_1 rec' list length t4 t7 t8) fun _ => rfl, trivial⟩
theorem ev_s_l05Times (list : (List Int)) (length : Int) : evalF E_s_l05Times (lookL ll_s_l05Times) Try.f92 [.ro false (.slice (.int .i64)), .ro false (.int .i64)] (.one false .bool) (list, length, ()) = g_s_l05Times list length := by kernel_rfl
def m_s_l05Times : FM := { ps := [.ro false (.slice (.int .i64)), .ro false (.int .i64)], res := .one false .bool, run := fun x => g_s_l05Times x.1 x.2.1 }
set_option maxRecDepth 4000 in
theorem ok_s_l05Times : FmOK Try.prog 92 m_s_l05Times := @FmOK.made Try.prog E_s_l05Times ek_s_l05Times 92 Try.f92 (lookL ll_s_l05Times) m_s_l05Times Try.func92 (by kernel_rfl) lo_s_l05Times fun ds out _ hr => by obtain ⟨list, length, ⟨⟩⟩ := ds; exact (ev_s_l05Times list length).trans hr

def E_s_l05RootAt : Tabs := (mkE tab [] [])
set_option maxRecDepth 4000 in
theorem ek_s_l05RootAt : EnvOK Try.prog E_s_l05RootAt := (mkE_ok tab_ok mixed AllF.nil AllX.nil)
def lm_L_s_l05RootAt_1 : LM := { mat := [], head := { slots := [(0, .dat false (.slice tRootKey)), (3, .cst (.sl (.row 0))), (7, .dat false (.int .i64)), (8, .dat false (.int .i64))], blks := [.row false (.int .i64)] }, out := { slots := [(3, .cst (.sl (.row 0)))], blks := [.row false (.int .i64)] }, ex := 0, rets := false, run := iter L_s_l05RootAt_1 fuel }
def ll_s_l05RootAt : List (Nat × LP) := [(3, .lm lm_L_s_l05RootAt_1)]
theorem rd_L_s_l05RootAt_1 (rec' : ((List dRootKey) × Int × Int × Unit) × ((List Int) × Unit) → Option ((Unit) × ((List Int) × Unit))) (roots : (List dRootKey)) (t7 : Int) (t8 : Int) (r0 : (List Int)) : round E_s_l05RootAt (lookL ll_s_l05RootAt) lm_L_s_l05RootAt_1 21 (loopAt Try.f94 0) rec' ((roots, t7, t8, ()), (r0, ())) = L_s_l05RootAt_1 rec' ((roots, t7, t8, ()), (r0, ())) := by kernel_rfl
theorem lo_s_l05RootAt : Loops E_s_l05RootAt (lookL ll_s_l05RootAt) Try.f94 := Loops.list (by kernel_rfl) (by kernel_rfl) ⟨LoopOK.iter (step := L_s_l05RootAt_1) (N := fun _ => fuel) (fun rec' x => by obtain ⟨⟨roots, t7, t8, ⟨⟩⟩, ⟨r0, ⟨⟩⟩⟩ := x; exact rd_L_s_l05RootAt_1 rec' roots t7 t8 r0) fun _ => rfl, trivial⟩
theorem ev_s_l05RootAt (roots : (List dRootKey)) : evalF E_s_l05RootAt (lookL ll_s_l05RootAt) Try.f94 [.ro false (.slice tRootKey)] (.one false (.slice (.int .i64))) (roots, ()) = g_s_l05RootAt roots := by kernel_rfl
def m_s_l05RootAt : FM := { ps := [.ro false (.slice tRootKey)], res := .one false (.slice (.int .i64)), run := fun x => g_s_l05RootAt x.1 }
set_option maxRecDepth 4000 in
theorem ok_s_l05RootAt : FmOK Try.prog 94 m_s_l05RootAt := @FmOK.made Try.prog E_s_l05RootAt ek_s_l05RootAt 94 Try.f94 (lookL ll_s_l05RootAt) m_s_l05RootAt Try.func94 (by kernel_rfl) lo_s_l05RootAt fun ds out _ hr => by obtain ⟨roots, ⟨⟩⟩ := ds; exact (ev_s_l05RootAt roots).trans hr

def E_s_l05Is : Tabs := (mkE tab [(42, m_s_l00In), (93, m_s_l05At), (92, m_s_l05Times), (94, m_s_l05RootAt)] [])
set_option maxRecDepth 4000 in
theorem ek_s_l05Is : EnvOK Try.prog E_s_l05Is := (mkE_ok tab_ok mixed (AllF.cons ok_s_l00In (AllF.cons ok_s_l05At (AllF.cons ok_s_l05Times (AllF.cons ok_s_l05RootAt AllF.nil)))) AllX.nil)
def lm_L_s_l05Is_1 : LM := { mat := [], head := { slots := [(0, .dat false (.ref tClip)), (2, .dat false .bool), (38, .dat false (.int .i64)), (39, .dat false (.int .i64))], blks := [] }, out := { slots := [(0, .dat false (.ref tClip)), (2, .dat false .bool)], blks := [] }, ex := 0, rets := true, run := iter L_s_l05Is_1 fuel }
def ll_s_l05Is : List (Nat × LP) := [(4, .lm lm_L_s_l05Is_1)]
theorem rd_L_s_l05Is_1 (rec' : (dClip × Bool × Int × Int × Unit) × (Unit) → Option (Bool × ((dClip × Bool × Unit) × (Unit)))) (c : dClip) (t2 : Bool) (t38 : Int) (t39 : Int) : round E_s_l05Is (lookL ll_s_l05Is) lm_L_s_l05Is_1 67 (loopAt Try.f60 0) rec' ((c, t2, t38, t39, ()), (())) = L_s_l05Is_1 rec' ((c, t2, t38, t39, ()), (())) := by kernel_rfl
theorem lo_s_l05Is : Loops E_s_l05Is (lookL ll_s_l05Is) Try.f60 := Loops.list (by kernel_rfl) (by kernel_rfl) ⟨LoopOK.iter (step := L_s_l05Is_1) (N := fun _ => fuel) (fun rec' x => by obtain ⟨⟨c, t2, t38, t39, ⟨⟩⟩, ⟨⟨⟩⟩⟩ := x; exact rd_L_s_l05Is_1 rec' c t2 t38 t39) fun _ => rfl, trivial⟩
theorem ev_s_l05Is (c : dClip) : evalF E_s_l05Is (lookL ll_s_l05Is) Try.f60 [.rptr tClip] (.one false .bool) (c, ()) = g_s_l05Is c := by kernel_rfl
def m_s_l05Is : FM := { ps := [.rptr tClip], res := .one false .bool, run := fun x => g_s_l05Is x.1 }
set_option maxRecDepth 4000 in
theorem ok_s_l05Is : FmOK Try.prog 60 m_s_l05Is := @FmOK.made Try.prog E_s_l05Is ek_s_l05Is 60 Try.f60 (lookL ll_s_l05Is) m_s_l05Is Try.func60 (by kernel_rfl) lo_s_l05Is fun ds out _ hr => by obtain ⟨c, ⟨⟩⟩ := ds; exact (ev_s_l05Is c).trans hr

def E_s_l07Is : Tabs := (mkE tab [(42, m_s_l00In), (60, m_s_l05Is)] [])
set_option maxRecDepth 4000 in
theorem ek_s_l07Is : EnvOK Try.prog E_s_l07Is := (mkE_ok tab_ok mixed (AllF.cons ok_s_l00In (AllF.cons ok_s_l05Is AllF.nil)) AllX.nil)
def lm_L_s_l07Is_3 : LM := { mat := [], head := { slots := [(0, .dat false (.ref tMachine)), (2, .dat false .bool), (4, .dat false (.int .i64)), (109, .dat false (.int .i64)), (110, .dat false (.int .i64))], blks := [] }, out := { slots := [(2, .dat false .bool)], blks := [] }, ex := 4, rets := true, run := iter L_s_l07Is_3 fuel }
def lm_L_s_l07Is_2 : LM := { mat := [], head := { slots := [(0, .dat false (.ref tMachine)), (2, .dat false .bool), (3, .dat false (.int .i64)), (4, .dat false (.int .i64)), (76, .dat false (.int .i64)), (77, .dat false (.int .i64))], blks := [] }, out := { slots := [(0, .dat false (.ref tMachine)), (2, .dat false .bool), (4, .dat false (.int .i64))], blks := [] }, ex := 2, rets := true, run := iter L_s_l07Is_2 fuel }
def lm_L_s_l07Is_1 : LM := { mat := [], head := { slots := [(0, .dat false (.ref tMachine)), (2, .dat false .bool), (3, .dat false (.int .i64)), (4, .dat false (.int .i64)), (39, .dat false (.int .i64)), (40, .dat false (.int .i64))], blks := [] }, out := { slots := [(0, .dat false (.ref tMachine)), (2, .dat false .bool), (3, .dat false (.int .i64)), (4, .dat false (.int .i64))], blks := [] }, ex := 0, rets := true, run := iter L_s_l07Is_1 fuel }
def ll_s_l07Is : List (Nat × LP) := [(6, .lm lm_L_s_l07Is_1), (12, .lm lm_L_s_l07Is_2), (18, .lm lm_L_s_l07Is_3)]
theorem rd_L_s_l07Is_3 (rec' : (dMachine × Bool × Int × Int × Int × Unit) × (Unit) → Option (Bool × ((Bool × Unit) × (Unit)))) (m : dMachine) (t2 : Bool) (states : Int) (t109 : Int) (t110 : Int) : round E_s_l07Is (lookL ll_s_l07Is) lm_L_s_l07Is_3 160 (loopAt Try.f32 2) rec' ((m, t2, states, t109, t110, ()), (())) = L_s_l07Is_3 rec' ((m, t2, states, t109, t110, ()), (())) := by kernel_rfl
theorem rd_L_s_l07Is_2 (rec' : (dMachine × Bool × Int × Int × Int × Int × Unit) × (Unit) → Option (Bool × ((dMachine × Bool × Int × Unit) × (Unit)))) (m : dMachine) (t2 : Bool) (clips : Int) (states : Int) (t76 : Int) (t77 : Int) : round E_s_l07Is (lookL ll_s_l07Is) lm_L_s_l07Is_2 160 (loopAt Try.f32 1) rec' ((m, t2, clips, states, t76, t77, ()), (())) = L_s_l07Is_2 rec' ((m, t2, clips, states, t76, t77, ()), (())) := by kernel_rfl
theorem rd_L_s_l07Is_1 (rec' : (dMachine × Bool × Int × Int × Int × Int × Unit) × (Unit) → Option (Bool × ((dMachine × Bool × Int × Int × Unit) × (Unit)))) (m : dMachine) (t2 : Bool) (clips : Int) (states : Int) (t39 : Int) (t40 : Int) : round E_s_l07Is (lookL ll_s_l07Is) lm_L_s_l07Is_1 160 (loopAt Try.f32 0) rec' ((m, t2, clips, states, t39, t40, ()), (())) = L_s_l07Is_1 rec' ((m, t2, clips, states, t39, t40, ()), (())) := by kernel_rfl
theorem lo_s_l07Is : Loops E_s_l07Is (lookL ll_s_l07Is) Try.f32 := Loops.list (by kernel_rfl) (by kernel_rfl) ⟨LoopOK.iter (step := L_s_l07Is_1) (N := fun _ => fuel) (fun rec' x => by obtain ⟨⟨m, t2, clips, states, t39, t40, ⟨⟩⟩, ⟨⟨⟩⟩⟩ := x; exact rd_L_s_l07Is_1 rec' m t2 clips states t39 t40) fun _ => rfl, LoopOK.iter (step := L_s_l07Is_2) (N := fun _ => fuel) (fun rec' x => by obtain ⟨⟨m, t2, clips, states, t76, t77, ⟨⟩⟩, ⟨⟨⟩⟩⟩ := x; exact rd_L_s_l07Is_2 rec' m t2 clips states t76 t77) fun _ => rfl, LoopOK.iter (step := L_s_l07Is_3) (N := fun _ => fuel) (fun rec' x => by obtain ⟨⟨m, t2, states, t109, t110, ⟨⟩⟩, ⟨⟨⟩⟩⟩ := x; exact rd_L_s_l07Is_3 rec' m t2 states t109 t110) fun _ => rfl, trivial⟩
theorem ev_s_l07Is (m : dMachine) : evalF E_s_l07Is (lookL ll_s_l07Is) Try.f32 [.rptr tMachine] (.one false .bool) (m, ()) = g_s_l07Is m := by kernel_rfl
def m_s_l07Is : FM := { ps := [.rptr tMachine], res := .one false .bool, run := fun x => g_s_l07Is x.1 }
set_option maxRecDepth 4000 in
theorem ok_s_l07Is : FmOK Try.prog 32 m_s_l07Is := @FmOK.made Try.prog E_s_l07Is ek_s_l07Is 32 Try.f32 (lookL ll_s_l07Is) m_s_l07Is Try.func32 (by kernel_rfl) lo_s_l07Is fun ds out _ hr => by obtain ⟨m, ⟨⟩⟩ := ds; exact (ev_s_l07Is m).trans hr

def E_s_ValidMachine : Tabs := (mkE tab [(32, m_s_l07Is)] [])
set_option maxRecDepth 4000 in
theorem ek_s_ValidMachine : EnvOK Try.prog E_s_ValidMachine := (mkE_ok tab_ok mixed (AllF.cons ok_s_l07Is AllF.nil) AllX.nil)
theorem ev_s_ValidMachine (m : dMachine) : evalF E_s_ValidMachine noL Try.f9 [.ro true tMachine] (.one false .bool) (m, ()) = g_s_ValidMachine m := by kernel_rfl
def m_s_ValidMachine : FM := { ps := [.ro true tMachine], res := .one false .bool, run := fun x => g_s_ValidMachine x.1 }
set_option maxRecDepth 4000 in
theorem ok_s_ValidMachine : FmOK Try.prog 9 m_s_ValidMachine := @FmOK.made Try.prog E_s_ValidMachine ek_s_ValidMachine 9 Try.f9 noL m_s_ValidMachine Try.func9 (by kernel_rfl) (Loops.none (by kernel_rfl)) fun ds out _ hr => by obtain ⟨m, ⟨⟩⟩ := ds; exact (ev_s_ValidMachine m).trans hr

def E_i_turnTrack : Tabs := (mkE tab [] [])
set_option maxRecDepth 4000 in
theorem ek_i_turnTrack : EnvOK Try.prog E_i_turnTrack := (mkE_ok tab_ok mixed AllF.nil AllX.nil)
theorem ev_i_turnTrack  : evalF E_i_turnTrack noL Try.f98 [] (.one true (.pair (.fn 124) (.pair (.fn 125) (.pair (.fn 126) .unit)))) (()) = g_i_turnTrack  := by kernel_rfl
def m_i_turnTrack : FM := { ps := [], res := .one true (.pair (.fn 124) (.pair (.fn 125) (.pair (.fn 126) .unit))), run := fun x => some (t_i_turnTrack ) }
set_option maxRecDepth 4000 in
theorem ok_i_turnTrack : FmOK Try.prog 98 m_i_turnTrack := @FmOK.made Try.prog E_i_turnTrack ek_i_turnTrack 98 Try.f98 noL m_i_turnTrack Try.func98 (by kernel_rfl) (Loops.none (by kernel_rfl)) fun ds out _ hr => by obtain ⟨⟨⟩⟩ := ds; exact (ev_i_turnTrack ).trans ((q_i_turnTrack ).trans hr)

def E_i_turnTrack_1 : Tabs := (mkE tab [] [])
set_option maxRecDepth 4000 in
theorem ek_i_turnTrack_1 : EnvOK Try.prog E_i_turnTrack_1 := (mkE_ok tab_ok mixed AllF.nil AllX.nil)
theorem ev_i_turnTrack_1 (k : dKey) : evalF E_i_turnTrack_1 noL Try.f124 [.ro true tKey] (.one false (.int .i64)) (k, ()) = g_i_turnTrack_1 k := by kernel_rfl
def m_i_turnTrack_1 : FM := { ps := [.ro true tKey], res := .one false (.int .i64), run := fun x => some (t_i_turnTrack_1 x.1) }
set_option maxRecDepth 4000 in
theorem ok_i_turnTrack_1 : FmOK Try.prog 124 m_i_turnTrack_1 := @FmOK.made Try.prog E_i_turnTrack_1 ek_i_turnTrack_1 124 Try.f124 noL m_i_turnTrack_1 Try.func124 (by kernel_rfl) (Loops.none (by kernel_rfl)) fun ds out _ hr => by obtain ⟨k, ⟨⟩⟩ := ds; exact (ev_i_turnTrack_1 k).trans ((q_i_turnTrack_1 k).trans hr)

def E_i_track_i_Key_valid : Tabs := (mkE tab [(124, m_i_turnTrack_1)] [])
set_option maxRecDepth 4000 in
theorem ek_i_track_i_Key_valid : EnvOK Try.prog E_i_track_i_Key_valid := (mkE_ok tab_ok mixed (AllF.cons ok_i_turnTrack_1 AllF.nil) AllX.nil)
def lm_L_i_track_i_Key_valid_1 : LM := { mat := [], head := { slots := [(1, .dat false (.slice tKey)), (2, .dat false (.int .i64)), (3, .cst (.ptr (.box 0 0))), (6, .dat false .bool), (7, .dat false (.int .i64)), (11, .dat false (.slice tKey)), (12, .dat false (.int .i64)), (13, .dat false (.int .i64))], blks := [.box [.dat (.pair (.fn 124) (.pair (.fn 125) (.pair (.fn 126) .unit)))]] }, out := { slots := [(1, .dat false (.slice tKey)), (6, .dat false .bool)], blks := [.dead] }, ex := 0, rets := true, run := iter L_i_track_i_Key_valid_1 fuel }
def ll_i_track_i_Key_valid : List (Nat × LP) := [(3, .lm lm_L_i_track_i_Key_valid_1)]
theorem rd_L_i_track_i_Key_valid_1 (rec' : ((List dKey) × Int × Bool × Int × (List dKey) × Int × Int × Unit) × (((Unit × (Unit × (Unit × Unit))) × Unit) × Unit) → Option (Bool × (((List dKey) × Bool × Unit) × (Unit)))) (keys : (List dKey)) (length : Int) (t6 : Bool) (last : Int) (t11 : (List dKey)) (t12 : Int) (t13 : Int) (b0 : (Unit × (Unit × (Unit × Unit)))) : round E_i_track_i_Key_valid (lookL ll_i_track_i_Key_valid) lm_L_i_track_i_Key_valid_1 42 (loopAt Try.f99 0) rec' ((keys, length, t6, last, t11, t12, t13, ()), ((b0, ()), ())) = L_i_track_i_Key_valid_1 rec' ((keys, length, t6, last, t11, t12, t13, ()), ((b0, ()), ())) := by kernel_rfl
theorem lo_i_track_i_Key_valid : Loops E_i_track_i_Key_valid (lookL ll_i_track_i_Key_valid) Try.f99 := Loops.list (by kernel_rfl) (by kernel_rfl) ⟨LoopOK.iter (step := L_i_track_i_Key_valid_1) (N := fun _ => fuel) (fun rec' x => by obtain ⟨⟨keys, length, t6, last, t11, t12, t13, ⟨⟩⟩, ⟨⟨b0, ⟨⟩⟩, ⟨⟩⟩⟩ := x; exact rd_L_i_track_i_Key_valid_1 rec' keys length t6 last t11 t12 t13 b0) fun _ => rfl, trivial⟩
theorem ev_i_track_i_Key_valid (t : (Unit × (Unit × (Unit × Unit)))) (keys : (List dKey)) (length : Int) : evalF E_i_track_i_Key_valid (lookL ll_i_track_i_Key_valid) Try.f99 [.ro true (.pair (.fn 124) (.pair (.fn 125) (.pair (.fn 126) .unit))), .ro false (.slice tKey), .ro false (.int .i64)] (.one false .bool) (t, keys, length, ()) = g_i_track_i_Key_valid t keys length := by kernel_rfl
def m_i_track_i_Key_valid : FM := { ps := [.ro true (.pair (.fn 124) (.pair (.fn 125) (.pair (.fn 126) .unit))), .ro false (.slice tKey), .ro false (.int .i64)], res := .one false .bool, run := fun x => g_i_track_i_Key_valid x.1 x.2.1 x.2.2.1 }
set_option maxRecDepth 4000 in
theorem ok_i_track_i_Key_valid : FmOK Try.prog 99 m_i_track_i_Key_valid := @FmOK.made Try.prog E_i_track_i_Key_valid ek_i_track_i_Key_valid 99 Try.f99 (lookL ll_i_track_i_Key_valid) m_i_track_i_Key_valid Try.func99 (by kernel_rfl) lo_i_track_i_Key_valid fun ds out _ hr => by obtain ⟨t, keys, length, ⟨⟩⟩ := ds; exact (ev_i_track_i_Key_valid t keys length).trans hr

def E_i_rootTrack : Tabs := (mkE tab [] [])
set_option maxRecDepth 4000 in
theorem ek_i_rootTrack : EnvOK Try.prog E_i_rootTrack := (mkE_ok tab_ok mixed AllF.nil AllX.nil)
theorem ev_i_rootTrack  : evalF E_i_rootTrack noL Try.f100 [] (.one true (.pair (.fn 128) (.pair (.fn 129) (.pair (.fn 130) .unit)))) (()) = g_i_rootTrack  := by kernel_rfl
def m_i_rootTrack : FM := { ps := [], res := .one true (.pair (.fn 128) (.pair (.fn 129) (.pair (.fn 130) .unit))), run := fun x => some (t_i_rootTrack ) }
set_option maxRecDepth 4000 in
theorem ok_i_rootTrack : FmOK Try.prog 100 m_i_rootTrack := @FmOK.made Try.prog E_i_rootTrack ek_i_rootTrack 100 Try.f100 noL m_i_rootTrack Try.func100 (by kernel_rfl) (Loops.none (by kernel_rfl)) fun ds out _ hr => by obtain ⟨⟨⟩⟩ := ds; exact (ev_i_rootTrack ).trans ((q_i_rootTrack ).trans hr)

def E_i_rootTrack_1 : Tabs := (mkE tab [] [])
set_option maxRecDepth 4000 in
theorem ek_i_rootTrack_1 : EnvOK Try.prog E_i_rootTrack_1 := (mkE_ok tab_ok mixed AllF.nil AllX.nil)
theorem ev_i_rootTrack_1 (k : dRootKey) : evalF E_i_rootTrack_1 noL Try.f128 [.ro true tRootKey] (.one false (.int .i64)) (k, ()) = g_i_rootTrack_1 k := by kernel_rfl
def m_i_rootTrack_1 : FM := { ps := [.ro true tRootKey], res := .one false (.int .i64), run := fun x => some (t_i_rootTrack_1 x.1) }
set_option maxRecDepth 4000 in
theorem ok_i_rootTrack_1 : FmOK Try.prog 128 m_i_rootTrack_1 := @FmOK.made Try.prog E_i_rootTrack_1 ek_i_rootTrack_1 128 Try.f128 noL m_i_rootTrack_1 Try.func128 (by kernel_rfl) (Loops.none (by kernel_rfl)) fun ds out _ hr => by obtain ⟨k, ⟨⟩⟩ := ds; exact (ev_i_rootTrack_1 k).trans ((q_i_rootTrack_1 k).trans hr)

def E_i_track_i_RootKey_valid : Tabs := (mkE tab [(128, m_i_rootTrack_1)] [])
set_option maxRecDepth 4000 in
theorem ek_i_track_i_RootKey_valid : EnvOK Try.prog E_i_track_i_RootKey_valid := (mkE_ok tab_ok mixed (AllF.cons ok_i_rootTrack_1 AllF.nil) AllX.nil)
def lm_L_i_track_i_RootKey_valid_1 : LM := { mat := [], head := { slots := [(1, .dat false (.slice tRootKey)), (2, .dat false (.int .i64)), (3, .cst (.ptr (.box 0 0))), (6, .dat false .bool), (7, .dat false (.int .i64)), (11, .dat false (.slice tRootKey)), (12, .dat false (.int .i64)), (13, .dat false (.int .i64))], blks := [.box [.dat (.pair (.fn 128) (.pair (.fn 129) (.pair (.fn 130) .unit)))]] }, out := { slots := [(1, .dat false (.slice tRootKey)), (6, .dat false .bool)], blks := [.dead] }, ex := 0, rets := true, run := iter L_i_track_i_RootKey_valid_1 fuel }
def ll_i_track_i_RootKey_valid : List (Nat × LP) := [(3, .lm lm_L_i_track_i_RootKey_valid_1)]
theorem rd_L_i_track_i_RootKey_valid_1 (rec' : ((List dRootKey) × Int × Bool × Int × (List dRootKey) × Int × Int × Unit) × (((Unit × (Unit × (Unit × Unit))) × Unit) × Unit) → Option (Bool × (((List dRootKey) × Bool × Unit) × (Unit)))) (keys : (List dRootKey)) (length : Int) (t6 : Bool) (last : Int) (t11 : (List dRootKey)) (t12 : Int) (t13 : Int) (b0 : (Unit × (Unit × (Unit × Unit)))) : round E_i_track_i_RootKey_valid (lookL ll_i_track_i_RootKey_valid) lm_L_i_track_i_RootKey_valid_1 42 (loopAt Try.f101 0) rec' ((keys, length, t6, last, t11, t12, t13, ()), ((b0, ()), ())) = L_i_track_i_RootKey_valid_1 rec' ((keys, length, t6, last, t11, t12, t13, ()), ((b0, ()), ())) := by kernel_rfl
theorem lo_i_track_i_RootKey_valid : Loops E_i_track_i_RootKey_valid (lookL ll_i_track_i_RootKey_valid) Try.f101 := Loops.list (by kernel_rfl) (by kernel_rfl) ⟨LoopOK.iter (step := L_i_track_i_RootKey_valid_1) (N := fun _ => fuel) (fun rec' x => by obtain ⟨⟨keys, length, t6, last, t11, t12, t13, ⟨⟩⟩, ⟨⟨b0, ⟨⟩⟩, ⟨⟩⟩⟩ := x; exact rd_L_i_track_i_RootKey_valid_1 rec' keys length t6 last t11 t12 t13 b0) fun _ => rfl, trivial⟩
theorem ev_i_track_i_RootKey_valid (t : (Unit × (Unit × (Unit × Unit)))) (keys : (List dRootKey)) (length : Int) : evalF E_i_track_i_RootKey_valid (lookL ll_i_track_i_RootKey_valid) Try.f101 [.ro true (.pair (.fn 128) (.pair (.fn 129) (.pair (.fn 130) .unit))), .ro false (.slice tRootKey), .ro false (.int .i64)] (.one false .bool) (t, keys, length, ()) = g_i_track_i_RootKey_valid t keys length := by kernel_rfl
def m_i_track_i_RootKey_valid : FM := { ps := [.ro true (.pair (.fn 128) (.pair (.fn 129) (.pair (.fn 130) .unit))), .ro false (.slice tRootKey), .ro false (.int .i64)], res := .one false .bool, run := fun x => g_i_track_i_RootKey_valid x.1 x.2.1 x.2.2.1 }
set_option maxRecDepth 4000 in
theorem ok_i_track_i_RootKey_valid : FmOK Try.prog 101 m_i_track_i_RootKey_valid := @FmOK.made Try.prog E_i_track_i_RootKey_valid ek_i_track_i_RootKey_valid 101 Try.f101 (lookL ll_i_track_i_RootKey_valid) m_i_track_i_RootKey_valid Try.func101 (by kernel_rfl) lo_i_track_i_RootKey_valid fun ds out _ hr => by obtain ⟨t, keys, length, ⟨⟩⟩ := ds; exact (ev_i_track_i_RootKey_valid t keys length).trans hr

def E_i_ValidClip : Tabs := (mkE tab [(98, m_i_turnTrack), (99, m_i_track_i_Key_valid), (100, m_i_rootTrack), (101, m_i_track_i_RootKey_valid)] [])
set_option maxRecDepth 4000 in
theorem ek_i_ValidClip : EnvOK Try.prog E_i_ValidClip := (mkE_ok tab_ok mixed (AllF.cons ok_i_turnTrack (AllF.cons ok_i_track_i_Key_valid (AllF.cons ok_i_rootTrack (AllF.cons ok_i_track_i_RootKey_valid AllF.nil)))) AllX.nil)
def lm_L_i_ValidClip_1 : LM := { mat := [], head := { slots := [(1, .cst (.ptr (.box 0 0))), (2, .dat false .bool), (36, .dat false (.slice (.slice tKey))), (37, .dat false (.int .i64)), (38, .dat false (.int .i64))], blks := [.box [.dat tClip]] }, out := { slots := [(1, .cst (.ptr (.box 0 0))), (2, .dat false .bool)], blks := [.box [.dat tClip]] }, ex := 0, rets := true, run := iter L_i_ValidClip_1 fuel }
def ll_i_ValidClip : List (Nat × LP) := [(4, .lm lm_L_i_ValidClip_1)]
theorem rd_L_i_ValidClip_1 (rec' : (Bool × (List (List dKey)) × Int × Int × Unit) × ((dClip × Unit) × Unit) → Option (Bool × ((Bool × Unit) × ((dClip × Unit) × Unit)))) (t2 : Bool) (t36 : (List (List dKey))) (t37 : Int) (t38 : Int) (b0 : dClip) : round E_i_ValidClip (lookL ll_i_ValidClip) lm_L_i_ValidClip_1 55 (loopAt Try.f66 0) rec' ((t2, t36, t37, t38, ()), ((b0, ()), ())) = L_i_ValidClip_1 rec' ((t2, t36, t37, t38, ()), ((b0, ()), ())) := by kernel_rfl
theorem lo_i_ValidClip : Loops E_i_ValidClip (lookL ll_i_ValidClip) Try.f66 := Loops.list (by kernel_rfl) (by kernel_rfl) ⟨LoopOK.iter (step := L_i_ValidClip_1) (N := fun _ => fuel) (fun rec' x => by obtain ⟨⟨t2, t36, t37, t38, ⟨⟩⟩, ⟨⟨b0, ⟨⟩⟩, ⟨⟩⟩⟩ := x; exact rd_L_i_ValidClip_1 rec' t2 t36 t37 t38 b0) fun _ => rfl, trivial⟩
theorem ev_i_ValidClip (c : dClip) : evalF E_i_ValidClip (lookL ll_i_ValidClip) Try.f66 [.ro true tClip] (.one false .bool) (c, ()) = g_i_ValidClip c := by kernel_rfl
def m_i_ValidClip : FM := { ps := [.ro true tClip], res := .one false .bool, run := fun x => g_i_ValidClip x.1 }
set_option maxRecDepth 4000 in
theorem ok_i_ValidClip : FmOK Try.prog 66 m_i_ValidClip := @FmOK.made Try.prog E_i_ValidClip ek_i_ValidClip 66 Try.f66 (lookL ll_i_ValidClip) m_i_ValidClip Try.func66 (by kernel_rfl) lo_i_ValidClip fun ds out _ hr => by obtain ⟨c, ⟨⟩⟩ := ds; exact (ev_i_ValidClip c).trans hr

def E_i_areClips_1 : Tabs := (mkE tab [(66, m_i_ValidClip)] [])
set_option maxRecDepth 4000 in
theorem ek_i_areClips_1 : EnvOK Try.prog E_i_areClips_1 := (mkE_ok tab_ok mixed (AllF.cons ok_i_ValidClip AllF.nil) AllX.nil)
theorem ev_i_areClips_1 (c : dClip) (p1 : (List dClip)) : evalF E_i_areClips_1 noL Try.f65 [.ro true tClip, .rptr (.slice tClip)] (.one false .bool) (c, p1, ()) = g_i_areClips_1 c p1 := by kernel_rfl
def m_i_areClips_1 : FM := { ps := [.ro true tClip, .rptr (.slice tClip)], res := .one false .bool, run := fun x => g_i_areClips_1 x.1 x.2.1 }
set_option maxRecDepth 4000 in
theorem ok_i_areClips_1 : FmOK Try.prog 65 m_i_areClips_1 := @FmOK.made Try.prog E_i_areClips_1 ek_i_areClips_1 65 Try.f65 noL m_i_areClips_1 Try.func65 (by kernel_rfl) (Loops.none (by kernel_rfl)) fun ds out _ hr => by obtain ⟨c, p1, ⟨⟩⟩ := ds; exact (ev_i_areClips_1 c p1).trans hr

def E_slices_IndexFunc_i_Clip_i_Clip : Tabs := (mkE tab [(65, m_i_areClips_1)] [])
set_option maxRecDepth 4000 in
theorem ek_slices_IndexFunc_i_Clip_i_Clip : EnvOK Try.prog E_slices_IndexFunc_i_Clip_i_Clip := (mkE_ok tab_ok mixed (AllF.cons ok_i_areClips_1 AllF.nil) AllX.nil)
def lm_L_slices_IndexFunc_i_Clip_i_Clip_1 : LM := { mat := [], head := { slots := [(0, .dat false (.slice tClip)), (1, .fnc 65 [(.slice tClip)]), (4, .dat false (.int .i64)), (7, .dat false (.int .i64)), (8, .dat false (.int .i64))], blks := [] }, out := { slots := [(4, .dat false (.int .i64))], blks := [] }, ex := 0, rets := true, run := iter L_slices_IndexFunc_i_Clip_i_Clip_1 fuel }
def ll_slices_IndexFunc_i_Clip_i_Clip : List (Nat × LP) := [(2, .lm lm_L_slices_IndexFunc_i_Clip_i_Clip_1)]
theorem rd_L_slices_IndexFunc_i_Clip_i_Clip_1 (rec' : ((List dClip) × ((List dClip) × Unit) × Int × Int × Int × Unit) × (Unit) → Option (Bool × ((Int × Unit) × (Unit)))) (s : (List dClip)) (f : ((List dClip) × Unit)) (t4 : Int) (t7 : Int) (t8 : Int) : round E_slices_IndexFunc_i_Clip_i_Clip (lookL ll_slices_IndexFunc_i_Clip_i_Clip) lm_L_slices_IndexFunc_i_Clip_i_Clip_1 19 (loopAt Try.f97 0) rec' ((s, f, t4, t7, t8, ()), (())) = L_slices_IndexFunc_i_Clip_i_Clip_1 rec' ((s, f, t4, t7, t8, ()), (())) := by kernel_rfl
theorem lo_slices_IndexFunc_i_Clip_i_Clip : Loops E_slices_IndexFunc_i_Clip_i_Clip (lookL ll_slices_IndexFunc_i_Clip_i_Clip) Try.f97 := Loops.list (by kernel_rfl) (by kernel_rfl) ⟨LoopOK.iter (step := L_slices_IndexFunc_i_Clip_i_Clip_1) (N := fun _ => fuel) (fun rec' x => by obtain ⟨⟨s, f, t4, t7, t8, ⟨⟩⟩, ⟨⟨⟩⟩⟩ := x; exact rd_L_slices_IndexFunc_i_Clip_i_Clip_1 rec' s f t4 t7 t8) fun _ => rfl, trivial⟩
theorem ev_slices_IndexFunc_i_Clip_i_Clip (s : (List dClip)) (f : ((List dClip) × Unit)) : evalF E_slices_IndexFunc_i_Clip_i_Clip (lookL ll_slices_IndexFunc_i_Clip_i_Clip) Try.f97 [.ro false (.slice tClip), .fnc 65 [(.slice tClip)]] (.one false (.int .i64)) (s, f, ()) = g_slices_IndexFunc_i_Clip_i_Clip s f := by kernel_rfl
def m_slices_IndexFunc_i_Clip_i_Clip : FM := { ps := [.ro false (.slice tClip), .fnc 65 [(.slice tClip)]], res := .one false (.int .i64), run := fun x => g_slices_IndexFunc_i_Clip_i_Clip x.1 x.2.1 }
set_option maxRecDepth 4000 in
theorem ok_slices_IndexFunc_i_Clip_i_Clip : FmOK Try.prog 97 m_slices_IndexFunc_i_Clip_i_Clip := @FmOK.made Try.prog E_slices_IndexFunc_i_Clip_i_Clip ek_slices_IndexFunc_i_Clip_i_Clip 97 Try.f97 (lookL ll_slices_IndexFunc_i_Clip_i_Clip) m_slices_IndexFunc_i_Clip_i_Clip Try.func97 (by kernel_rfl) lo_slices_IndexFunc_i_Clip_i_Clip fun ds out _ hr => by obtain ⟨s, f, ⟨⟩⟩ := ds; exact (ev_slices_IndexFunc_i_Clip_i_Clip s f).trans hr

def E_slices_ContainsFunc_i_Clip_i_Clip : Tabs := (mkE tab [(97, m_slices_IndexFunc_i_Clip_i_Clip)] [])
set_option maxRecDepth 4000 in
theorem ek_slices_ContainsFunc_i_Clip_i_Clip : EnvOK Try.prog E_slices_ContainsFunc_i_Clip_i_Clip := (mkE_ok tab_ok mixed (AllF.cons ok_slices_IndexFunc_i_Clip_i_Clip AllF.nil) AllX.nil)
theorem ev_slices_ContainsFunc_i_Clip_i_Clip (s : (List dClip)) (f : ((List dClip) × Unit)) : evalF E_slices_ContainsFunc_i_Clip_i_Clip noL Try.f64 [.ro false (.slice tClip), .fnc 65 [(.slice tClip)]] (.one false .bool) (s, f, ()) = g_slices_ContainsFunc_i_Clip_i_Clip s f := by kernel_rfl
def m_slices_ContainsFunc_i_Clip_i_Clip : FM := { ps := [.ro false (.slice tClip), .fnc 65 [(.slice tClip)]], res := .one false .bool, run := fun x => g_slices_ContainsFunc_i_Clip_i_Clip x.1 x.2.1 }
set_option maxRecDepth 4000 in
theorem ok_slices_ContainsFunc_i_Clip_i_Clip : FmOK Try.prog 64 m_slices_ContainsFunc_i_Clip_i_Clip := @FmOK.made Try.prog E_slices_ContainsFunc_i_Clip_i_Clip ek_slices_ContainsFunc_i_Clip_i_Clip 64 Try.f64 noL m_slices_ContainsFunc_i_Clip_i_Clip Try.func64 (by kernel_rfl) (Loops.none (by kernel_rfl)) fun ds out _ hr => by obtain ⟨s, f, ⟨⟩⟩ := ds; exact (ev_slices_ContainsFunc_i_Clip_i_Clip s f).trans hr

def E_i_areClips : Tabs := (mkE tab [(64, m_slices_ContainsFunc_i_Clip_i_Clip)] [])
set_option maxRecDepth 4000 in
theorem ek_i_areClips : EnvOK Try.prog E_i_areClips := (mkE_ok tab_ok mixed (AllF.cons ok_slices_ContainsFunc_i_Clip_i_Clip AllF.nil) AllX.nil)
theorem ev_i_areClips (clips : (List dClip)) : evalF E_i_areClips noL Try.f36 [.ro false (.slice tClip)] (.one false .bool) (clips, ()) = g_i_areClips clips := by kernel_rfl
def m_i_areClips : FM := { ps := [.ro false (.slice tClip)], res := .one false .bool, run := fun x => g_i_areClips x.1 }
set_option maxRecDepth 4000 in
theorem ok_i_areClips : FmOK Try.prog 36 m_i_areClips := @FmOK.made Try.prog E_i_areClips ek_i_areClips 36 Try.f36 noL m_i_areClips Try.func36 (by kernel_rfl) (Loops.none (by kernel_rfl)) fun ds out _ hr => by obtain ⟨clips, ⟨⟩⟩ := ds; exact (ev_i_areClips clips).trans hr

def E_i_ValidMachine_1 : Tabs := (mkE tab [] [])
set_option maxRecDepth 4000 in
theorem ek_i_ValidMachine_1 : EnvOK Try.prog E_i_ValidMachine_1 := (mkE_ok tab_ok mixed AllF.nil AllX.nil)
theorem ev_i_ValidMachine_1 (r : dRule) (p1 : Int) : evalF E_i_ValidMachine_1 noL Try.f38 [.ro true tRule, .rptr (.int .i64)] (.one false .bool) (r, p1, ()) = g_i_ValidMachine_1 r p1 := by kernel_rfl
def m_i_ValidMachine_1 : FM := { ps := [.ro true tRule, .rptr (.int .i64)], res := .one false .bool, run := fun x => some (t_i_ValidMachine_1 x.1 x.2.1) }
set_option maxRecDepth 4000 in
theorem ok_i_ValidMachine_1 : FmOK Try.prog 38 m_i_ValidMachine_1 := @FmOK.made Try.prog E_i_ValidMachine_1 ek_i_ValidMachine_1 38 Try.f38 noL m_i_ValidMachine_1 Try.func38 (by kernel_rfl) (Loops.none (by kernel_rfl)) fun ds out _ hr => by obtain ⟨r, p1, ⟨⟩⟩ := ds; exact (ev_i_ValidMachine_1 r p1).trans ((q_i_ValidMachine_1 r p1).trans hr)

def E_slices_IndexFunc_i_Rule_i_Rule : Tabs := (mkE tab [(38, m_i_ValidMachine_1)] [])
set_option maxRecDepth 4000 in
theorem ek_slices_IndexFunc_i_Rule_i_Rule : EnvOK Try.prog E_slices_IndexFunc_i_Rule_i_Rule := (mkE_ok tab_ok mixed (AllF.cons ok_i_ValidMachine_1 AllF.nil) AllX.nil)
def lm_L_slices_IndexFunc_i_Rule_i_Rule_1 : LM := { mat := [], head := { slots := [(0, .dat false (.slice tRule)), (1, .fnc 38 [(.int .i64)]), (4, .dat false (.int .i64)), (7, .dat false (.int .i64)), (8, .dat false (.int .i64))], blks := [] }, out := { slots := [(4, .dat false (.int .i64))], blks := [] }, ex := 0, rets := true, run := iter L_slices_IndexFunc_i_Rule_i_Rule_1 fuel }
def ll_slices_IndexFunc_i_Rule_i_Rule : List (Nat × LP) := [(2, .lm lm_L_slices_IndexFunc_i_Rule_i_Rule_1)]
theorem rd_L_slices_IndexFunc_i_Rule_i_Rule_1 (rec' : ((List dRule) × (Int × Unit) × Int × Int × Int × Unit) × (Unit) → Option (Bool × ((Int × Unit) × (Unit)))) (s : (List dRule)) (f : (Int × Unit)) (t4 : Int) (t7 : Int) (t8 : Int) : round E_slices_IndexFunc_i_Rule_i_Rule (lookL ll_slices_IndexFunc_i_Rule_i_Rule) lm_L_slices_IndexFunc_i_Rule_i_Rule_1 19 (loopAt Try.f67 0) rec' ((s, f, t4, t7, t8, ()), (())) = L_slices_IndexFunc_i_Rule_i_Rule_1 rec' ((s, f, t4, t7, t8, ()), (())) := by kernel_rfl
theorem lo_slices_IndexFunc_i_Rule_i_Rule : Loops E_slices_IndexFunc_i_Rule_i_Rule (lookL ll_slices_IndexFunc_i_Rule_i_Rule) Try.f67 := Loops.list (by kernel_rfl) (by kernel_rfl) ⟨LoopOK.iter (step := L_slices_IndexFunc_i_Rule_i_Rule_1) (N := fun _ => fuel) (fun rec' x => by obtain ⟨⟨s, f, t4, t7, t8, ⟨⟩⟩, ⟨⟨⟩⟩⟩ := x; exact rd_L_slices_IndexFunc_i_Rule_i_Rule_1 rec' s f t4 t7 t8) fun _ => rfl, trivial⟩
theorem ev_slices_IndexFunc_i_Rule_i_Rule (s : (List dRule)) (f : (Int × Unit)) : evalF E_slices_IndexFunc_i_Rule_i_Rule (lookL ll_slices_IndexFunc_i_Rule_i_Rule) Try.f67 [.ro false (.slice tRule), .fnc 38 [(.int .i64)]] (.one false (.int .i64)) (s, f, ()) = g_slices_IndexFunc_i_Rule_i_Rule s f := by kernel_rfl
def m_slices_IndexFunc_i_Rule_i_Rule : FM := { ps := [.ro false (.slice tRule), .fnc 38 [(.int .i64)]], res := .one false (.int .i64), run := fun x => g_slices_IndexFunc_i_Rule_i_Rule x.1 x.2.1 }
set_option maxRecDepth 4000 in
theorem ok_slices_IndexFunc_i_Rule_i_Rule : FmOK Try.prog 67 m_slices_IndexFunc_i_Rule_i_Rule := @FmOK.made Try.prog E_slices_IndexFunc_i_Rule_i_Rule ek_slices_IndexFunc_i_Rule_i_Rule 67 Try.f67 (lookL ll_slices_IndexFunc_i_Rule_i_Rule) m_slices_IndexFunc_i_Rule_i_Rule Try.func67 (by kernel_rfl) lo_slices_IndexFunc_i_Rule_i_Rule fun ds out _ hr => by obtain ⟨s, f, ⟨⟩⟩ := ds; exact (ev_slices_IndexFunc_i_Rule_i_Rule s f).trans hr

def E_slices_ContainsFunc_i_Rule_i_Rule : Tabs := (mkE tab [(67, m_slices_IndexFunc_i_Rule_i_Rule)] [])
set_option maxRecDepth 4000 in
theorem ek_slices_ContainsFunc_i_Rule_i_Rule : EnvOK Try.prog E_slices_ContainsFunc_i_Rule_i_Rule := (mkE_ok tab_ok mixed (AllF.cons ok_slices_IndexFunc_i_Rule_i_Rule AllF.nil) AllX.nil)
theorem ev_slices_ContainsFunc_i_Rule_i_Rule (s : (List dRule)) (f : (Int × Unit)) : evalF E_slices_ContainsFunc_i_Rule_i_Rule noL Try.f37 [.ro false (.slice tRule), .fnc 38 [(.int .i64)]] (.one false .bool) (s, f, ()) = g_slices_ContainsFunc_i_Rule_i_Rule s f := by kernel_rfl
def m_slices_ContainsFunc_i_Rule_i_Rule : FM := { ps := [.ro false (.slice tRule), .fnc 38 [(.int .i64)]], res := .one false .bool, run := fun x => g_slices_ContainsFunc_i_Rule_i_Rule x.1 x.2.1 }
set_option maxRecDepth 4000 in
theorem ok_slices_ContainsFunc_i_Rule_i_Rule : FmOK Try.prog 37 m_slices_ContainsFunc_i_Rule_i_Rule := @FmOK.made Try.prog E_slices_ContainsFunc_i_Rule_i_Rule ek_slices_ContainsFunc_i_Rule_i_Rule 37 Try.f37 noL m_slices_ContainsFunc_i_Rule_i_Rule Try.func37 (by kernel_rfl) (Loops.none (by kernel_rfl)) fun ds out _ hr => by obtain ⟨s, f, ⟨⟩⟩ := ds; exact (ev_slices_ContainsFunc_i_Rule_i_Rule s f).trans hr

def E_i_ValidMachine : Tabs := (mkE tab [(36, m_i_areClips), (37, m_slices_ContainsFunc_i_Rule_i_Rule)] [])
set_option maxRecDepth 4000 in
theorem ek_i_ValidMachine : EnvOK Try.prog E_i_ValidMachine := (mkE_ok tab_ok mixed (AllF.cons ok_i_areClips (AllF.cons ok_slices_ContainsFunc_i_Rule_i_Rule AllF.nil)) AllX.nil)
def lm_L_i_ValidMachine_1 : LM := { mat := [], head := { slots := [(1, .cst (.ptr (.box 0 0))), (2, .dat false .bool), (29, .dat false (.slice tState)), (30, .dat false (.int .i64)), (31, .dat false (.int .i64))], blks := [.box [.dat tMachine]] }, out := { slots := [(1, .cst (.ptr (.box 0 0))), (2, .dat false .bool)], blks := [.box [.dat tMachine]] }, ex := 0, rets := true, run := iter L_i_ValidMachine_1 fuel }
def ll_i_ValidMachine : List (Nat × LP) := [(4, .lm lm_L_i_ValidMachine_1)]
theorem rd_L_i_ValidMachine_1 (rec' : (Bool × (List dState) × Int × Int × Unit) × ((dMachine × Unit) × Unit) → Option (Bool × ((Bool × Unit) × ((dMachine × Unit) × Unit)))) (t2 : Bool) (t29 : (List dState)) (t30 : Int) (t31 : Int) (b0 : dMachine) : round E_i_ValidMachine (lookL ll_i_ValidMachine) lm_L_i_ValidMachine_1 65 (loopAt Try.f11 0) rec' ((t2, t29, t30, t31, ()), ((b0, ()), ())) = L_i_ValidMachine_1 rec' ((t2, t29, t30, t31, ()), ((b0, ()), ())) := by kernel_rfl
theorem lo_i_ValidMachine : Loops E_i_ValidMachine (lookL ll_i_ValidMachine) Try.f11 := Loops.list (by kernel_rfl) (by kernel_rfl) ⟨LoopOK.iter (step := L_i_ValidMachine_1) (N := fun _ => fuel) (fun rec' x => by obtain ⟨⟨t2, t29, t30, t31, ⟨⟩⟩, ⟨⟨b0, ⟨⟩⟩, ⟨⟩⟩⟩ := x; exact rd_L_i_ValidMachine_1 rec' t2 t29 t30 t31 b0) fun _ => rfl, trivial⟩
theorem ev_i_ValidMachine (m : dMachine) : evalF E_i_ValidMachine (lookL ll_i_ValidMachine) Try.f11 [.ro true tMachine] (.one false .bool) (m, ()) = g_i_ValidMachine m := by kernel_rfl
def m_i_ValidMachine : FM := { ps := [.ro true tMachine], res := .one false .bool, run := fun x => g_i_ValidMachine x.1 }
set_option maxRecDepth 4000 in
theorem ok_i_ValidMachine : FmOK Try.prog 11 m_i_ValidMachine := @FmOK.made Try.prog E_i_ValidMachine ek_i_ValidMachine 11 Try.f11 (lookL ll_i_ValidMachine) m_i_ValidMachine Try.func11 (by kernel_rfl) lo_i_ValidMachine fun ds out _ hr => by obtain ⟨m, ⟨⟩⟩ := ds; exact (ev_i_ValidMachine m).trans hr

def E_w_sameFloat : Tabs := (mkE tab [] [])
set_option maxRecDepth 4000 in
theorem ek_w_sameFloat : EnvOK Try.prog E_w_sameFloat := (mkE_ok tab_ok mixed AllF.nil AllX.nil)
theorem ev_w_sameFloat (a : Nat) (b : Nat) : evalF E_w_sameFloat noL Try.f49 [.ro false (.flt .f64), .ro false (.flt .f64)] (.one false .bool) (a, b, ()) = g_w_sameFloat a b := by kernel_rfl
def m_w_sameFloat : FM := { ps := [.ro false (.flt .f64), .ro false (.flt .f64)], res := .one false .bool, run := fun x => some (t_w_sameFloat x.1 x.2.1) }
set_option maxRecDepth 4000 in
theorem ok_w_sameFloat : FmOK Try.prog 49 m_w_sameFloat := @FmOK.made Try.prog E_w_sameFloat ek_w_sameFloat 49 Try.f49 noL m_w_sameFloat Try.func49 (by kernel_rfl) (Loops.none (by kernel_rfl)) fun ds out _ hr => by obtain ⟨a, b, ⟨⟩⟩ := ds; exact (ev_w_sameFloat a b).trans ((q_w_sameFloat a b).trans hr)

def E_w_eqTurn : Tabs := (mkE tab [(49, m_w_sameFloat)] [])
set_option maxRecDepth 4000 in
theorem ek_w_eqTurn : EnvOK Try.prog E_w_eqTurn := (mkE_ok tab_ok mixed (AllF.cons ok_w_sameFloat AllF.nil) AllX.nil)
theorem ev_w_eqTurn (a : dTurn) (b : dTurn) : evalF E_w_eqTurn noL Try.f120 [.ro true tTurn, .ro true tTurn] (.one false .bool) (a, b, ()) = g_w_eqTurn a b := by kernel_rfl
def m_w_eqTurn : FM := { ps := [.ro true tTurn, .ro true tTurn], res := .one false .bool, run := fun x => some (t_w_eqTurn x.1 x.2.1) }
set_option maxRecDepth 4000 in
theorem ok_w_eqTurn : FmOK Try.prog 120 m_w_eqTurn := @FmOK.made Try.prog E_w_eqTurn ek_w_eqTurn 120 Try.f120 noL m_w_eqTurn Try.func120 (by kernel_rfl) (Loops.none (by kernel_rfl)) fun ds out _ hr => by obtain ⟨a, b, ⟨⟩⟩ := ds; exact (ev_w_eqTurn a b).trans ((q_w_eqTurn a b).trans hr)

def E_w_eqKey : Tabs := (mkE tab [(120, m_w_eqTurn)] [])
set_option maxRecDepth 4000 in
theorem ek_w_eqKey : EnvOK Try.prog E_w_eqKey := (mkE_ok tab_ok mixed (AllF.cons ok_w_eqTurn AllF.nil) AllX.nil)
theorem ev_w_eqKey (a : dKey) (b : dKey) : evalF E_w_eqKey noL Try.f150 [.ro true tKey, .ro true tKey] (.one false .bool) (a, b, ()) = g_w_eqKey a b := by kernel_rfl
def m_w_eqKey : FM := { ps := [.ro true tKey, .ro true tKey], res := .one false .bool, run := fun x => some (t_w_eqKey x.1 x.2.1) }
set_option maxRecDepth 4000 in
theorem ok_w_eqKey : FmOK Try.prog 150 m_w_eqKey := @FmOK.made Try.prog E_w_eqKey ek_w_eqKey 150 Try.f150 noL m_w_eqKey Try.func150 (by kernel_rfl) (Loops.none (by kernel_rfl)) fun ds out _ hr => by obtain ⟨a, b, ⟨⟩⟩ := ds; exact (ev_w_eqKey a b).trans ((q_w_eqKey a b).trans hr)

def E_w_eqKeyS : Tabs := (mkE tab [(150, m_w_eqKey)] [])
set_option maxRecDepth 4000 in
theorem ek_w_eqKeyS : EnvOK Try.prog E_w_eqKeyS := (mkE_ok tab_ok mixed (AllF.cons ok_w_eqKey AllF.nil) AllX.nil)
def lm_L_w_eqKeyS_1 : LM := { mat := [], head := { slots := [(0, .dat false (.slice tKey)), (1, .dat false (.slice tKey)), (4, .dat false .bool), (5, .dat false (.int .i64))], blks := [] }, out := { slots := [(4, .dat false .bool)], blks := [] }, ex := 0, rets := true, run := iter L_w_eqKeyS_1 fuel }
def ll_w_eqKeyS : List (Nat × LP) := [(4, .lm lm_L_w_eqKeyS_1)]
theorem rd_L_w_eqKeyS_1 (rec' : ((List dKey) × (List dKey) × Bool × Int × Unit) × (Unit) → Option (Bool × ((Bool × Unit) × (Unit)))) (a : (List dKey)) (b : (List dKey)) (t4 : Bool) (i : Int) : round E_w_eqKeyS (lookL ll_w_eqKeyS) lm_L_w_eqKeyS_1 27 (loopAt Try.f132 0) rec' ((a, b, t4, i, ()), (())) = L_w_eqKeyS_1 rec' ((a, b, t4, i, ()), (())) := by kernel_rfl
theorem lo_w_eqKeyS : Loops E_w_eqKeyS (lookL ll_w_eqKeyS) Try.f132 := Loops.list (by kernel_rfl) (by kernel_rfl) ⟨LoopOK.iter (step := L_w_eqKeyS_1) (N := fun _ => fuel) (fun rec' x => by obtain ⟨⟨a, b, t4, i, ⟨⟩⟩, ⟨⟨⟩⟩⟩ := x; exact rd_L_w_eqKeyS_1 rec' a b t4 i) fun _ => rfl, trivial⟩
theorem ev_w_eqKeyS (a : (List dKey)) (b : (List dKey)) : evalF E_w_eqKeyS (lookL ll_w_eqKeyS) Try.f132 [.ro false (.slice tKey), .ro false (.slice tKey)] (.one false .bool) (a, b, ()) = g_w_eqKeyS a b := by kernel_rfl
def m_w_eqKeyS : FM := { ps := [.ro false (.slice tKey), .ro false (.slice tKey)], res := .one false .bool, run := fun x => g_w_eqKeyS x.1 x.2.1 }
set_option maxRecDepth 4000 in
theorem ok_w_eqKeyS : FmOK Try.prog 132 m_w_eqKeyS := @FmOK.made Try.prog E_w_eqKeyS ek_w_eqKeyS 132 Try.f132 (lookL ll_w_eqKeyS) m_w_eqKeyS Try.func132 (by kernel_rfl) lo_w_eqKeyS fun ds out _ hr => by obtain ⟨a, b, ⟨⟩⟩ := ds; exact (ev_w_eqKeyS a b).trans hr

def E_w_eqKeySS : Tabs := (mkE tab [(132, m_w_eqKeyS)] [])
set_option maxRecDepth 4000 in
theorem ek_w_eqKeySS : EnvOK Try.prog E_w_eqKeySS := (mkE_ok tab_ok mixed (AllF.cons ok_w_eqKeyS AllF.nil) AllX.nil)
def lm_L_w_eqKeySS_1 : LM := { mat := [], head := { slots := [(0, .dat false (.slice (.slice tKey))), (1, .dat false (.slice (.slice tKey))), (4, .dat false .bool), (5, .dat false (.int .i64))], blks := [] }, out := { slots := [(4, .dat false .bool)], blks := [] }, ex := 0, rets := true, run := iter L_w_eqKeySS_1 fuel }
def ll_w_eqKeySS : List (Nat × LP) := [(4, .lm lm_L_w_eqKeySS_1)]
theorem rd_L_w_eqKeySS_1 (rec' : ((List (List dKey)) × (List (List dKey)) × Bool × Int × Unit) × (Unit) → Option (Bool × ((Bool × Unit) × (Unit)))) (a : (List (List dKey))) (b : (List (List dKey))) (t4 : Bool) (i : Int) : round E_w_eqKeySS (lookL ll_w_eqKeySS) lm_L_w_eqKeySS_1 27 (loopAt Try.f102 0) rec' ((a, b, t4, i, ()), (())) = L_w_eqKeySS_1 rec' ((a, b, t4, i, ()), (())) := by kernel_rfl
theorem lo_w_eqKeySS : Loops E_w_eqKeySS (lookL ll_w_eqKeySS) Try.f102 := Loops.list (by kernel_rfl) (by kernel_rfl) ⟨LoopOK.iter (step := L_w_eqKeySS_1) (N := fun _ => fuel) (fun rec' x => by obtain ⟨⟨a, b, t4, i, ⟨⟩⟩, ⟨⟨⟩⟩⟩ := x; exact rd_L_w_eqKeySS_1 rec' a b t4 i) fun _ => rfl, trivial⟩
theorem ev_w_eqKeySS (a : (List (List dKey))) (b : (List (List dKey))) : evalF E_w_eqKeySS (lookL ll_w_eqKeySS) Try.f102 [.ro false (.slice (.slice tKey)), .ro false (.slice (.slice tKey))] (.one false .bool) (a, b, ()) = g_w_eqKeySS a b := by kernel_rfl
def m_w_eqKeySS : FM := { ps := [.ro false (.slice (.slice tKey)), .ro false (.slice (.slice tKey))], res := .one false .bool, run := fun x => g_w_eqKeySS x.1 x.2.1 }
set_option maxRecDepth 4000 in
theorem ok_w_eqKeySS : FmOK Try.prog 102 m_w_eqKeySS := @FmOK.made Try.prog E_w_eqKeySS ek_w_eqKeySS 102 Try.f102 (lookL ll_w_eqKeySS) m_w_eqKeySS Try.func102 (by kernel_rfl) lo_w_eqKeySS fun ds out _ hr => by obtain ⟨a, b, ⟨⟩⟩ := ds; exact (ev_w_eqKeySS a b).trans hr

def E_w_eqVector : Tabs := (mkE tab [(49, m_w_sameFloat)] [])
set_option maxRecDepth 4000 in
theorem ek_w_eqVector : EnvOK Try.prog E_w_eqVector := (mkE_ok tab_ok mixed (AllF.cons ok_w_sameFloat AllF.nil) AllX.nil)
theorem ev_w_eqVector (a : dVec) (b : dVec) : evalF E_w_eqVector noL Try.f88 [.ro true tVec, .ro true tVec] (.one false .bool) (a, b, ()) = g_w_eqVector a b := by kernel_rfl
def m_w_eqVector : FM := { ps := [.ro true tVec, .ro true tVec], res := .one false .bool, run := fun x => some (t_w_eqVector x.1 x.2.1) }
set_option maxRecDepth 4000 in
theorem ok_w_eqVector : FmOK Try.prog 88 m_w_eqVector := @FmOK.made Try.prog E_w_eqVector ek_w_eqVector 88 Try.f88 noL m_w_eqVector Try.func88 (by kernel_rfl) (Loops.none (by kernel_rfl)) fun ds out _ hr => by obtain ⟨a, b, ⟨⟩⟩ := ds; exact (ev_w_eqVector a b).trans ((q_w_eqVector a b).trans hr)

def E_w_eqRootKey : Tabs := (mkE tab [(88, m_w_eqVector)] [])
set_option maxRecDepth 4000 in
theorem ek_w_eqRootKey : EnvOK Try.prog E_w_eqRootKey := (mkE_ok tab_ok mixed (AllF.cons ok_w_eqVector AllF.nil) AllX.nil)
theorem ev_w_eqRootKey (a : dRootKey) (b : dRootKey) : evalF E_w_eqRootKey noL Try.f133 [.ro true tRootKey, .ro true tRootKey] (.one false .bool) (a, b, ()) = g_w_eqRootKey a b := by kernel_rfl
def m_w_eqRootKey : FM := { ps := [.ro true tRootKey, .ro true tRootKey], res := .one false .bool, run := fun x => some (t_w_eqRootKey x.1 x.2.1) }
set_option maxRecDepth 4000 in
theorem ok_w_eqRootKey : FmOK Try.prog 133 m_w_eqRootKey := @FmOK.made Try.prog E_w_eqRootKey ek_w_eqRootKey 133 Try.f133 noL m_w_eqRootKey Try.func133 (by kernel_rfl) (Loops.none (by kernel_rfl)) fun ds out _ hr => by obtain ⟨a, b, ⟨⟩⟩ := ds; exact (ev_w_eqRootKey a b).trans ((q_w_eqRootKey a b).trans hr)

def E_w_eqRootKeyS : Tabs := (mkE tab [(133, m_w_eqRootKey)] [])
set_option maxRecDepth 4000 in
theorem ek_w_eqRootKeyS : EnvOK Try.prog E_w_eqRootKeyS := (mkE_ok tab_ok mixed (AllF.cons ok_w_eqRootKey AllF.nil) AllX.nil)
def lm_L_w_eqRootKeyS_1 : LM := { mat := [], head := { slots := [(0, .dat false (.slice tRootKey)), (1, .dat false (.slice tRootKey)), (4, .dat false .bool), (5, .dat false (.int .i64))], blks := [] }, out := { slots := [(4, .dat false .bool)], blks := [] }, ex := 0, rets := true, run := iter L_w_eqRootKeyS_1 fuel }
def ll_w_eqRootKeyS : List (Nat × LP) := [(4, .lm lm_L_w_eqRootKeyS_1)]
theorem rd_L_w_eqRootKeyS_1 (rec' : ((List dRootKey) × (List dRootKey) × Bool × Int × Unit) × (Unit) → Option (Bool × ((Bool × Unit) × (Unit)))) (a : (List dRootKey)) (b : (List dRootKey)) (t4 : Bool) (i : Int) : round E_w_eqRootKeyS (lookL ll_w_eqRootKeyS) lm_L_w_eqRootKeyS_1 27 (loopAt Try.f103 0) rec' ((a, b, t4, i, ()), (())) = L_w_eqRootKeyS_1 rec' ((a, b, t4, i, ()), (())) := by kernel_rfl
theorem lo_w_eqRootKeyS : Loops E_w_eqRootKeyS (lookL ll_w_eqRootKeyS) Try.f103 := Loops.list (by kernel_rfl) (by kernel_rfl) ⟨LoopOK.iter (step := L_w_eqRootKeyS_1) (N := fun _ => fuel) (fun rec' x => by obtain ⟨⟨a, b, t4, i, ⟨⟩⟩, ⟨⟨⟩⟩⟩ := x; exact rd_L_w_eqRootKeyS_1 rec' a b t4 i) fun _ => rfl, trivial⟩
theorem ev_w_eqRootKeyS (a : (List dRootKey)) (b : (List dRootKey)) : evalF E_w_eqRootKeyS (lookL ll_w_eqRootKeyS) Try.f103 [.ro false (.slice tRootKey), .ro false (.slice tRootKey)] (.one false .bool) (a, b, ()) = g_w_eqRootKeyS a b := by kernel_rfl
def m_w_eqRootKeyS : FM := { ps := [.ro false (.slice tRootKey), .ro false (.slice tRootKey)], res := .one false .bool, run := fun x => g_w_eqRootKeyS x.1 x.2.1 }
set_option maxRecDepth 4000 in
theorem ok_w_eqRootKeyS : FmOK Try.prog 103 m_w_eqRootKeyS := @FmOK.made Try.prog E_w_eqRootKeyS ek_w_eqRootKeyS 103 Try.f103 (lookL ll_w_eqRootKeyS) m_w_eqRootKeyS Try.func103 (by kernel_rfl) lo_w_eqRootKeyS fun ds out _ hr => by obtain ⟨a, b, ⟨⟩⟩ := ds; exact (ev_w_eqRootKeyS a b).trans hr

def E_w_eqClip : Tabs := (mkE tab [(102, m_w_eqKeySS), (103, m_w_eqRootKeyS)] [])
set_option maxRecDepth 4000 in
theorem ek_w_eqClip : EnvOK Try.prog E_w_eqClip := (mkE_ok tab_ok mixed (AllF.cons ok_w_eqKeySS (AllF.cons ok_w_eqRootKeyS AllF.nil)) AllX.nil)
theorem ev_w_eqClip (a : dClip) (b : dClip) : evalF E_w_eqClip noL Try.f68 [.ro true tClip, .ro true tClip] (.one false .bool) (a, b, ()) = g_w_eqClip a b := by kernel_rfl
def m_w_eqClip : FM := { ps := [.ro true tClip, .ro true tClip], res := .one false .bool, run := fun x => g_w_eqClip x.1 x.2.1 }
set_option maxRecDepth 4000 in
theorem ok_w_eqClip : FmOK Try.prog 68 m_w_eqClip := @FmOK.made Try.prog E_w_eqClip ek_w_eqClip 68 Try.f68 noL m_w_eqClip Try.func68 (by kernel_rfl) (Loops.none (by kernel_rfl)) fun ds out _ hr => by obtain ⟨a, b, ⟨⟩⟩ := ds; exact (ev_w_eqClip a b).trans hr

def E_w_eqClipS : Tabs := (mkE tab [(68, m_w_eqClip)] [])
set_option maxRecDepth 4000 in
theorem ek_w_eqClipS : EnvOK Try.prog E_w_eqClipS := (mkE_ok tab_ok mixed (AllF.cons ok_w_eqClip AllF.nil) AllX.nil)
def lm_L_w_eqClipS_1 : LM := { mat := [], head := { slots := [(0, .dat false (.slice tClip)), (1, .dat false (.slice tClip)), (4, .dat false .bool), (5, .dat false (.int .i64))], blks := [] }, out := { slots := [(4, .dat false .bool)], blks := [] }, ex := 0, rets := true, run := iter L_w_eqClipS_1 fuel }
def ll_w_eqClipS : List (Nat × LP) := [(4, .lm lm_L_w_eqClipS_1)]
theorem rd_L_w_eqClipS_1 (rec' : ((List dClip) × (List dClip) × Bool × Int × Unit) × (Unit) → Option (Bool × ((Bool × Unit) × (Unit)))) (a : (List dClip)) (b : (List dClip)) (t4 : Bool) (i : Int) : round E_w_eqClipS (lookL ll_w_eqClipS) lm_L_w_eqClipS_1 27 (loopAt Try.f39 0) rec' ((a, b, t4, i, ()), (())) = L_w_eqClipS_1 rec' ((a, b, t4, i, ()), (())) := by kernel_rfl
theorem lo_w_eqClipS : Loops E_w_eqClipS (lookL ll_w_eqClipS) Try.f39 := Loops.list (by kernel_rfl) (by kernel_rfl) ⟨LoopOK.iter (step := L_w_eqClipS_1) (N := fun _ => fuel) (fun rec' x => by obtain ⟨⟨a, b, t4, i, ⟨⟩⟩, ⟨⟨⟩⟩⟩ := x; exact rd_L_w_eqClipS_1 rec' a b t4 i) fun _ => rfl, trivial⟩
theorem ev_w_eqClipS (a : (List dClip)) (b : (List dClip)) : evalF E_w_eqClipS (lookL ll_w_eqClipS) Try.f39 [.ro false (.slice tClip), .ro false (.slice tClip)] (.one false .bool) (a, b, ()) = g_w_eqClipS a b := by kernel_rfl
def m_w_eqClipS : FM := { ps := [.ro false (.slice tClip), .ro false (.slice tClip)], res := .one false .bool, run := fun x => g_w_eqClipS x.1 x.2.1 }
set_option maxRecDepth 4000 in
theorem ok_w_eqClipS : FmOK Try.prog 39 m_w_eqClipS := @FmOK.made Try.prog E_w_eqClipS ek_w_eqClipS 39 Try.f39 (lookL ll_w_eqClipS) m_w_eqClipS Try.func39 (by kernel_rfl) lo_w_eqClipS fun ds out _ hr => by obtain ⟨a, b, ⟨⟩⟩ := ds; exact (ev_w_eqClipS a b).trans hr

def E_w_eqState : Tabs := (mkE tab [] [])
set_option maxRecDepth 4000 in
theorem ek_w_eqState : EnvOK Try.prog E_w_eqState := (mkE_ok tab_ok mixed AllF.nil AllX.nil)
theorem ev_w_eqState (a : dState) (b : dState) : evalF E_w_eqState noL Try.f69 [.ro true tState, .ro true tState] (.one false .bool) (a, b, ()) = g_w_eqState a b := by kernel_rfl
def m_w_eqState : FM := { ps := [.ro true tState, .ro true tState], res := .one false .bool, run := fun x => some (t_w_eqState x.1 x.2.1) }
set_option maxRecDepth 4000 in
theorem ok_w_eqState : FmOK Try.prog 69 m_w_eqState := @FmOK.made Try.prog E_w_eqState ek_w_eqState 69 Try.f69 noL m_w_eqState Try.func69 (by kernel_rfl) (Loops.none (by kernel_rfl)) fun ds out _ hr => by obtain ⟨a, b, ⟨⟩⟩ := ds; exact (ev_w_eqState a b).trans ((q_w_eqState a b).trans hr)

def E_w_eqStateS : Tabs := (mkE tab [(69, m_w_eqState)] [])
set_option maxRecDepth 4000 in
theorem ek_w_eqStateS : EnvOK Try.prog E_w_eqStateS := (mkE_ok tab_ok mixed (AllF.cons ok_w_eqState AllF.nil) AllX.nil)
def lm_L_w_eqStateS_1 : LM := { mat := [], head := { slots := [(0, .dat false (.slice tState)), (1, .dat false (.slice tState)), (4, .dat false .bool), (5, .dat false (.int .i64))], blks := [] }, out := { slots := [(4, .dat false .bool)], blks := [] }, ex := 0, rets := true, run := iter L_w_eqStateS_1 fuel }
def ll_w_eqStateS : List (Nat × LP) := [(4, .lm lm_L_w_eqStateS_1)]
theorem rd_L_w_eqStateS_1 (rec' : ((List dState) × (List dState) × Bool × Int × Unit) × (Unit) → Option (Bool × ((Bool × Unit) × (Unit)))) (a : (List dState)) (b : (List dState)) (t4 : Bool) (i : Int) : round E_w_eqStateS (lookL ll_w_eqStateS) lm_L_w_eqStateS_1 27 (loopAt Try.f40 0) rec' ((a, b, t4, i, ()), (())) = L_w_eqStateS_1 rec' ((a, b, t4, i, ()), (())) := by kernel_rfl
theorem lo_w_eqStateS : Loops E_w_eqStateS (lookL ll_w_eqStateS) Try.f40 := Loops.list (by kernel_rfl) (by kernel_rfl) ⟨LoopOK.iter (step := L_w_eqStateS_1) (N := fun _ => fuel) (fun rec' x => by obtain ⟨⟨a, b, t4, i, ⟨⟩⟩, ⟨⟨⟩⟩⟩ := x; exact rd_L_w_eqStateS_1 rec' a b t4 i) fun _ => rfl, trivial⟩
theorem ev_w_eqStateS (a : (List dState)) (b : (List dState)) : evalF E_w_eqStateS (lookL ll_w_eqStateS) Try.f40 [.ro false (.slice tState), .ro false (.slice tState)] (.one false .bool) (a, b, ()) = g_w_eqStateS a b := by kernel_rfl
def m_w_eqStateS : FM := { ps := [.ro false (.slice tState), .ro false (.slice tState)], res := .one false .bool, run := fun x => g_w_eqStateS x.1 x.2.1 }
set_option maxRecDepth 4000 in
theorem ok_w_eqStateS : FmOK Try.prog 40 m_w_eqStateS := @FmOK.made Try.prog E_w_eqStateS ek_w_eqStateS 40 Try.f40 (lookL ll_w_eqStateS) m_w_eqStateS Try.func40 (by kernel_rfl) lo_w_eqStateS fun ds out _ hr => by obtain ⟨a, b, ⟨⟩⟩ := ds; exact (ev_w_eqStateS a b).trans hr

def E_w_eqRule : Tabs := (mkE tab [(49, m_w_sameFloat)] [])
set_option maxRecDepth 4000 in
theorem ek_w_eqRule : EnvOK Try.prog E_w_eqRule := (mkE_ok tab_ok mixed (AllF.cons ok_w_sameFloat AllF.nil) AllX.nil)
theorem ev_w_eqRule (a : dRule) (b : dRule) : evalF E_w_eqRule noL Try.f70 [.ro true tRule, .ro true tRule] (.one false .bool) (a, b, ()) = g_w_eqRule a b := by kernel_rfl
def m_w_eqRule : FM := { ps := [.ro true tRule, .ro true tRule], res := .one false .bool, run := fun x => some (t_w_eqRule x.1 x.2.1) }
set_option maxRecDepth 4000 in
theorem ok_w_eqRule : FmOK Try.prog 70 m_w_eqRule := @FmOK.made Try.prog E_w_eqRule ek_w_eqRule 70 Try.f70 noL m_w_eqRule Try.func70 (by kernel_rfl) (Loops.none (by kernel_rfl)) fun ds out _ hr => by obtain ⟨a, b, ⟨⟩⟩ := ds; exact (ev_w_eqRule a b).trans ((q_w_eqRule a b).trans hr)

def E_w_eqRuleS : Tabs := (mkE tab [(70, m_w_eqRule)] [])
set_option maxRecDepth 4000 in
theorem ek_w_eqRuleS : EnvOK Try.prog E_w_eqRuleS := (mkE_ok tab_ok mixed (AllF.cons ok_w_eqRule AllF.nil) AllX.nil)
def lm_L_w_eqRuleS_1 : LM := { mat := [], head := { slots := [(0, .dat false (.slice tRule)), (1, .dat false (.slice tRule)), (4, .dat false .bool), (5, .dat false (.int .i64))], blks := [] }, out := { slots := [(4, .dat false .bool)], blks := [] }, ex := 0, rets := true, run := iter L_w_eqRuleS_1 fuel }
def ll_w_eqRuleS : List (Nat × LP) := [(4, .lm lm_L_w_eqRuleS_1)]
theorem rd_L_w_eqRuleS_1 (rec' : ((List dRule) × (List dRule) × Bool × Int × Unit) × (Unit) → Option (Bool × ((Bool × Unit) × (Unit)))) (a : (List dRule)) (b : (List dRule)) (t4 : Bool) (i : Int) : round E_w_eqRuleS (lookL ll_w_eqRuleS) lm_L_w_eqRuleS_1 27 (loopAt Try.f41 0) rec' ((a, b, t4, i, ()), (())) = L_w_eqRuleS_1 rec' ((a, b, t4, i, ()), (())) := by kernel_rfl
theorem lo_w_eqRuleS : Loops E_w_eqRuleS (lookL ll_w_eqRuleS) Try.f41 := Loops.list (by kernel_rfl) (by kernel_rfl) ⟨LoopOK.iter (step := L_w_eqRuleS_1) (N := fun _ => fuel) (fun rec' x => by obtain ⟨⟨a, b, t4, i, ⟨⟩⟩, ⟨⟨⟩⟩⟩ := x; exact rd_L_w_eqRuleS_1 rec' a b t4 i) fun _ => rfl, trivial⟩
theorem ev_w_eqRuleS (a : (List dRule)) (b : (List dRule)) : evalF E_w_eqRuleS (lookL ll_w_eqRuleS) Try.f41 [.ro false (.slice tRule), .ro false (.slice tRule)] (.one false .bool) (a, b, ()) = g_w_eqRuleS a b := by kernel_rfl
def m_w_eqRuleS : FM := { ps := [.ro false (.slice tRule), .ro false (.slice tRule)], res := .one false .bool, run := fun x => g_w_eqRuleS x.1 x.2.1 }
set_option maxRecDepth 4000 in
theorem ok_w_eqRuleS : FmOK Try.prog 41 m_w_eqRuleS := @FmOK.made Try.prog E_w_eqRuleS ek_w_eqRuleS 41 Try.f41 (lookL ll_w_eqRuleS) m_w_eqRuleS Try.func41 (by kernel_rfl) lo_w_eqRuleS fun ds out _ hr => by obtain ⟨a, b, ⟨⟩⟩ := ds; exact (ev_w_eqRuleS a b).trans hr

def E_w_eqMachine : Tabs := (mkE tab [(39, m_w_eqClipS), (40, m_w_eqStateS), (41, m_w_eqRuleS)] [])
set_option maxRecDepth 4000 in
theorem ek_w_eqMachine : EnvOK Try.prog E_w_eqMachine := (mkE_ok tab_ok mixed (AllF.cons ok_w_eqClipS (AllF.cons ok_w_eqStateS (AllF.cons ok_w_eqRuleS AllF.nil))) AllX.nil)
theorem ev_w_eqMachine (a : dMachine) (b : dMachine) : evalF E_w_eqMachine noL Try.f12 [.ro true tMachine, .ro true tMachine] (.one false .bool) (a, b, ()) = g_w_eqMachine a b := by kernel_rfl
def m_w_eqMachine : FM := { ps := [.ro true tMachine, .ro true tMachine], res := .one false .bool, run := fun x => g_w_eqMachine x.1 x.2.1 }
set_option maxRecDepth 4000 in
theorem ok_w_eqMachine : FmOK Try.prog 12 m_w_eqMachine := @FmOK.made Try.prog E_w_eqMachine ek_w_eqMachine 12 Try.f12 noL m_w_eqMachine Try.func12 (by kernel_rfl) (Loops.none (by kernel_rfl)) fun ds out _ hr => by obtain ⟨a, b, ⟨⟩⟩ := ds; exact (ev_w_eqMachine a b).trans hr

def E_w_FnExactValidMachine : Tabs := (mkE tab [(8, m_w_szMachine), (10, m_w_toMachine), (9, m_s_ValidMachine), (11, m_i_ValidMachine), (12, m_w_eqMachine)] [])
set_option maxRecDepth 4000 in
theorem ek_w_FnExactValidMachine : EnvOK Try.prog E_w_FnExactValidMachine := (mkE_ok tab_ok mixed (AllF.cons ok_w_szMachine (AllF.cons ok_w_toMachine (AllF.cons ok_s_ValidMachine (AllF.cons ok_i_ValidMachine (AllF.cons ok_w_eqMachine AllF.nil))))) AllX.nil)
theorem ev_w_FnExactValidMachine (aM : dMachine) : evalF E_w_FnExactValidMachine noL Try.f3 [.ro true tMachine] (.one false .bool) (aM, ()) = g_w_FnExactValidMachine aM := by kernel_rfl
def m_w_FnExactValidMachine : FM := { ps := [.ro true tMachine], res := .one false .bool, run := fun x => g_w_FnExactValidMachine x.1 }
set_option maxRecDepth 4000 in
theorem ok_w_FnExactValidMachine : FmOK Try.prog 3 m_w_FnExactValidMachine := @FmOK.made Try.prog E_w_FnExactValidMachine ek_w_FnExactValidMachine 3 Try.f3 noL m_w_FnExactValidMachine Try.func3 (by kernel_rfl) (Loops.none (by kernel_rfl)) fun ds out _ hr => by obtain ⟨aM, ⟨⟩⟩ := ds; exact (ev_w_FnExactValidMachine aM).trans hr

def E_s_l07Start : Tabs := (mkE tab [] [])
set_option maxRecDepth 4000 in
theorem ek_s_l07Start : EnvOK Try.prog E_s_l07Start := (mkE_ok tab_ok mixed AllF.nil AllX.nil)
theorem ev_s_l07Start (state : Int) : evalF E_s_l07Start noL Try.f43 [.ro false (.int .i64)] (.one true tRun) (state, ()) = g_s_l07Start state := by kernel_rfl
def m_s_l07Start : FM := { ps := [.ro false (.int .i64)], res := .one true tRun, run := fun x => some (t_s_l07Start x.1) }
set_option maxRecDepth 4000 in
theorem ok_s_l07Start : FmOK Try.prog 43 m_s_l07Start := @FmOK.made Try.prog E_s_l07Start ek_s_l07Start 43 Try.f43 noL m_s_l07Start Try.func43 (by kernel_rfl) (Loops.none (by kernel_rfl)) fun ds out _ hr => by obtain ⟨state, ⟨⟩⟩ := ds; exact (ev_s_l07Start state).trans ((q_s_l07Start state).trans hr)

def E_s_StartRun : Tabs := (mkE tab [(32, m_s_l07Is), (42, m_s_l00In), (43, m_s_l07Start)] [])
set_option maxRecDepth 4000 in
theorem ek_s_StartRun : EnvOK Try.prog E_s_StartRun := (mkE_ok tab_ok mixed (AllF.cons ok_s_l07Is (AllF.cons ok_s_l00In (AllF.cons ok_s_l07Start AllF.nil))) AllX.nil)
theorem ev_s_StartRun (m : dMachine) (state : Int) : evalF E_s_StartRun noL Try.f13 [.ro true tMachine, .ro false (.int .i64)] (.tup [(true, tRun), (false, .bool)]) (m, state, ()) = g_s_StartRun m state := by kernel_rfl
def m_s_StartRun : FM := { ps := [.ro true tMachine, .ro false (.int .i64)], res := .tup [(true, tRun), (false, .bool)], run := fun x => g_s_StartRun x.1 x.2.1 }
set_option maxRecDepth 4000 in
theorem ok_s_StartRun : FmOK Try.prog 13 m_s_StartRun := @FmOK.made Try.prog E_s_StartRun ek_s_StartRun 13 Try.f13 noL m_s_StartRun Try.func13 (by kernel_rfl) (Loops.none (by kernel_rfl)) fun ds out _ hr => by obtain ⟨m, state, ⟨⟩⟩ := ds; exact (ev_s_StartRun m state).trans hr

def E_i_hasState : Tabs := (mkE tab [(11, m_i_ValidMachine)] [])
set_option maxRecDepth 4000 in
theorem ek_i_hasState : EnvOK Try.prog E_i_hasState := (mkE_ok tab_ok mixed (AllF.cons ok_i_ValidMachine AllF.nil) AllX.nil)
theorem ev_i_hasState (m : dMachine) (state : Int) : evalF E_i_hasState noL Try.f44 [.ro true tMachine, .ro false (.int .i64)] (.one false .bool) (m, state, ()) = g_i_hasState m state := by kernel_rfl
def m_i_hasState : FM := { ps := [.ro true tMachine, .ro false (.int .i64)], res := .one false .bool, run := fun x => g_i_hasState x.1 x.2.1 }
set_option maxRecDepth 4000 in
theorem ok_i_hasState : FmOK Try.prog 44 m_i_hasState := @FmOK.made Try.prog E_i_hasState ek_i_hasState 44 Try.f44 noL m_i_hasState Try.func44 (by kernel_rfl) (Loops.none (by kernel_rfl)) fun ds out _ hr => by obtain ⟨m, state, ⟨⟩⟩ := ds; exact (ev_i_hasState m state).trans hr

def E_i_StartRun : Tabs := (mkE tab [(44, m_i_hasState)] [])
set_option maxRecDepth 4000 in
theorem ek_i_StartRun : EnvOK Try.prog E_i_StartRun := (mkE_ok tab_ok mixed (AllF.cons ok_i_hasState AllF.nil) AllX.nil)
theorem ev_i_StartRun (m : dMachine) (state : Int) : evalF E_i_StartRun noL Try.f14 [.ro true tMachine, .ro false (.int .i64)] (.tup [(true, tRun), (false, .bool)]) (m, state, ()) = g_i_StartRun m state := by kernel_rfl
def m_i_StartRun : FM := { ps := [.ro true tMachine, .ro false (.int .i64)], res := .tup [(true, tRun), (false, .bool)], run := fun x => g_i_StartRun x.1 x.2.1 }
set_option maxRecDepth 4000 in
theorem ok_i_StartRun : FmOK Try.prog 14 m_i_StartRun := @FmOK.made Try.prog E_i_StartRun ek_i_StartRun 14 Try.f14 noL m_i_StartRun Try.func14 (by kernel_rfl) (Loops.none (by kernel_rfl)) fun ds out _ hr => by obtain ⟨m, state, ⟨⟩⟩ := ds; exact (ev_i_StartRun m state).trans hr

def E_w_eqRun : Tabs := (mkE tab [] [])
set_option maxRecDepth 4000 in
theorem ek_w_eqRun : EnvOK Try.prog E_w_eqRun := (mkE_ok tab_ok mixed AllF.nil AllX.nil)
theorem ev_w_eqRun (a : dRun) (b : dRun) : evalF E_w_eqRun noL Try.f15 [.ro true tRun, .ro true tRun] (.one false .bool) (a, b, ()) = g_w_eqRun a b := by kernel_rfl
def m_w_eqRun : FM := { ps := [.ro true tRun, .ro true tRun], res := .one false .bool, run := fun x => some (t_w_eqRun x.1 x.2.1) }
set_option maxRecDepth 4000 in
theorem ok_w_eqRun : FmOK Try.prog 15 m_w_eqRun := @FmOK.made Try.prog E_w_eqRun ek_w_eqRun 15 Try.f15 noL m_w_eqRun Try.func15 (by kernel_rfl) (Loops.none (by kernel_rfl)) fun ds out _ hr => by obtain ⟨a, b, ⟨⟩⟩ := ds; exact (ev_w_eqRun a b).trans ((q_w_eqRun a b).trans hr)

def E_w_FnExactStartRun : Tabs := (mkE tab [(8, m_w_szMachine), (10, m_w_toMachine), (13, m_s_StartRun), (14, m_i_StartRun), (15, m_w_eqRun), (12, m_w_eqMachine)] [])
set_option maxRecDepth 4000 in
theorem ek_w_FnExactStartRun : EnvOK Try.prog E_w_FnExactStartRun := (mkE_ok tab_ok mixed (AllF.cons ok_w_szMachine (AllF.cons ok_w_toMachine (AllF.cons ok_s_StartRun (AllF.cons ok_i_StartRun (AllF.cons ok_w_eqRun (AllF.cons ok_w_eqMachine AllF.nil)))))) AllX.nil)
theorem ev_w_FnExactStartRun (aM : dMachine) (aState : Int) : evalF E_w_FnExactStartRun noL Try.f4 [.ro true tMachine, .ro false (.int .i64)] (.one false .bool) (aM, aState, ()) = g_w_FnExactStartRun aM aState := by kernel_rfl
def m_w_FnExactStartRun : FM := { ps := [.ro true tMachine, .ro false (.int .i64)], res := .one false .bool, run := fun x => g_w_FnExactStartRun x.1 x.2.1 }
set_option maxRecDepth 4000 in
theorem ok_w_FnExactStartRun : FmOK Try.prog 4 m_w_FnExactStartRun := @FmOK.made Try.prog E_w_FnExactStartRun ek_w_FnExactStartRun 4 Try.f4 noL m_w_FnExactStartRun Try.func4 (by kernel_rfl) (Loops.none (by kernel_rfl)) fun ds out _ hr => by obtain ⟨aM, aState, ⟨⟩⟩ := ds; exact (ev_w_FnExactStartRun aM aState).trans hr

def E_w_toRun : Tabs := (mkE tab [] [])
set_option maxRecDepth 4000 in
theorem ek_w_toRun : EnvOK Try.prog E_w_toRun := (mkE_ok tab_ok mixed AllF.nil AllX.nil)
theorem ev_w_toRun (a : dRun) : evalF E_w_toRun noL Try.f17 [.ro true tRun] (.one true tRun) (a, ()) = g_w_toRun a := by kernel_rfl
def m_w_toRun : FM := { ps := [.ro true tRun], res := .one true tRun, run := fun x => some (t_w_toRun x.1) }
set_option maxRecDepth 4000 in
theorem ok_w_toRun : FmOK Try.prog 17 m_w_toRun := @FmOK.made Try.prog E_w_toRun ek_w_toRun 17 Try.f17 noL m_w_toRun Try.func17 (by kernel_rfl) (Loops.none (by kernel_rfl)) fun ds out _ hr => by obtain ⟨a, ⟨⟩⟩ := ds; exact (ev_w_toRun a).trans ((q_w_toRun a).trans hr)

def E_s_l07Length : Tabs := (mkE tab [] [])
set_option maxRecDepth 4000 in
theorem ek_s_l07Length : EnvOK Try.prog E_s_l07Length := (mkE_ok tab_ok mixed AllF.nil AllX.nil)
theorem ev_s_l07Length (m : dMachine) (state : Int) : evalF E_s_l07Length noL Try.f104 [.rptr tMachine, .ro false (.int .i64)] (.one false (.int .i64)) (m, state, ()) = g_s_l07Length m state := by kernel_rfl
def m_s_l07Length : FM := { ps := [.rptr tMachine, .ro false (.int .i64)], res := .one false (.int .i64), run := fun x => g_s_l07Length x.1 x.2.1 }
set_option maxRecDepth 4000 in
theorem ok_s_l07Length : FmOK Try.prog 104 m_s_l07Length := @FmOK.made Try.prog E_s_l07Length ek_s_l07Length 104 Try.f104 noL m_s_l07Length Try.func104 (by kernel_rfl) (Loops.none (by kernel_rfl)) fun ds out _ hr => by obtain ⟨m, state, ⟨⟩⟩ := ds; exact (ev_s_l07Length m state).trans hr

def E_s_l07Time : Tabs := (mkE tab [(104, m_s_l07Length), (42, m_s_l00In)] [])
set_option maxRecDepth 4000 in
theorem ek_s_l07Time : EnvOK Try.prog E_s_l07Time := (mkE_ok tab_ok mixed (AllF.cons ok_s_l07Length (AllF.cons ok_s_l00In AllF.nil)) AllX.nil)
theorem ev_s_l07Time (m : dMachine) (state : Int) (time : Int) : evalF E_s_l07Time noL Try.f71 [.rptr tMachine, .ro false (.int .i64), .ro false (.int .i64)] (.one false .bool) (m, state, time, ()) = g_s_l07Time m state time := by kernel_rfl
def m_s_l07Time : FM := { ps := [.rptr tMachine, .ro false (.int .i64), .ro false (.int .i64)], res := .one false .bool, run := fun x => g_s_l07Time x.1 x.2.1 x.2.2.1 }
set_option maxRecDepth 4000 in
theorem ok_s_l07Time : FmOK Try.prog 71 m_s_l07Time := @FmOK.made Try.prog E_s_l07Time ek_s_l07Time 71 Try.f71 noL m_s_l07Time Try.func71 (by kernel_rfl) (Loops.none (by kernel_rfl)) fun ds out _ hr => by obtain ⟨m, state, time, ⟨⟩⟩ := ds; exact (ev_s_l07Time m state time).trans hr

def E_s_l07Run : Tabs := (mkE tab [(42, m_s_l00In), (71, m_s_l07Time)] [])
set_option maxRecDepth 4000 in
theorem ek_s_l07Run : EnvOK Try.prog E_s_l07Run := (mkE_ok tab_ok mixed (AllF.cons ok_s_l00In (AllF.cons ok_s_l07Time AllF.nil)) AllX.nil)
theorem ev_s_l07Run (m : dMachine) (r : dRun) : evalF E_s_l07Run noL Try.f45 [.rptr tMachine, .rptr tRun] (.one false .bool) (m, r, ()) = g_s_l07Run m r := by kernel_rfl
def m_s_l07Run : FM := { ps := [.rptr tMachine, .rptr tRun], res := .one false .bool, run := fun x => g_s_l07Run x.1 x.2.1 }
set_option maxRecDepth 4000 in
theorem ok_s_l07Run : FmOK Try.prog 45 m_s_l07Run := @FmOK.made Try.prog E_s_l07Run ek_s_l07Run 45 Try.f45 noL m_s_l07Run Try.func45 (by kernel_rfl) (Loops.none (by kernel_rfl)) fun ds out _ hr => by obtain ⟨m, r, ⟨⟩⟩ := ds; exact (ev_s_l07Run m r).trans hr

def E_s_IsRun : Tabs := (mkE tab [(32, m_s_l07Is), (45, m_s_l07Run)] [])
set_option maxRecDepth 4000 in
theorem ek_s_IsRun : EnvOK Try.prog E_s_IsRun := (mkE_ok tab_ok mixed (AllF.cons ok_s_l07Is (AllF.cons ok_s_l07Run AllF.nil)) AllX.nil)
theorem ev_s_IsRun (m : dMachine) (r : dRun) : evalF E_s_IsRun noL Try.f16 [.ro true tMachine, .ro true tRun] (.one false .bool) (m, r, ()) = g_s_IsRun m r := by kernel_rfl
def m_s_IsRun : FM := { ps := [.ro true tMachine, .ro true tRun], res := .one false .bool, run := fun x => g_s_IsRun x.1 x.2.1 }
set_option maxRecDepth 4000 in
theorem ok_s_IsRun : FmOK Try.prog 16 m_s_IsRun := @FmOK.made Try.prog E_s_IsRun ek_s_IsRun 16 Try.f16 noL m_s_IsRun Try.func16 (by kernel_rfl) (Loops.none (by kernel_rfl)) fun ds out _ hr => by obtain ⟨m, r, ⟨⟩⟩ := ds; exact (ev_s_IsRun m r).trans hr

def E_i_Machine_length : Tabs := (mkE tab [] [])
set_option maxRecDepth 4000 in
theorem ek_i_Machine_length : EnvOK Try.prog E_i_Machine_length := (mkE_ok tab_ok mixed AllF.nil AllX.nil)
theorem ev_i_Machine_length (m : dMachine) (state : Int) : evalF E_i_Machine_length noL Try.f72 [.rptr tMachine, .ro false (.int .i64)] (.one false (.int .i64)) (m, state, ()) = g_i_Machine_length m state := by kernel_rfl
def m_i_Machine_length : FM := { ps := [.rptr tMachine, .ro false (.int .i64)], res := .one false (.int .i64), run := fun x => g_i_Machine_length x.1 x.2.1 }
set_option maxRecDepth 4000 in
theorem ok_i_Machine_length : FmOK Try.prog 72 m_i_Machine_length := @FmOK.made Try.prog E_i_Machine_length ek_i_Machine_length 72 Try.f72 noL m_i_Machine_length Try.func72 (by kernel_rfl) (Loops.none (by kernel_rfl)) fun ds out _ hr => by obtain ⟨m, state, ⟨⟩⟩ := ds; exact (ev_i_Machine_length m state).trans hr

def E_i_Machine_isTime : Tabs := (mkE tab [(72, m_i_Machine_length)] [])
set_option maxRecDepth 4000 in
theorem ek_i_Machine_isTime : EnvOK Try.prog E_i_Machine_isTime := (mkE_ok tab_ok mixed (AllF.cons ok_i_Machine_length AllF.nil) AllX.nil)
theorem ev_i_Machine_isTime (m : dMachine) (state : Int) (atx : Int) : evalF E_i_Machine_isTime noL Try.f46 [.rptr tMachine, .ro false (.int .i64), .ro false (.int .i64)] (.one false .bool) (m, state, atx, ()) = g_i_Machine_isTime m state atx := by kernel_rfl
def m_i_Machine_isTime : FM := { ps := [.rptr tMachine, .ro false (.int .i64), .ro false (.int .i64)], res := .one false .bool, run := fun x => g_i_Machine_isTime x.1 x.2.1 x.2.2.1 }
set_option maxRecDepth 4000 in
theorem ok_i_Machine_isTime : FmOK Try.prog 46 m_i_Machine_isTime := @FmOK.made Try.prog E_i_Machine_isTime ek_i_Machine_isTime 46 Try.f46 noL m_i_Machine_isTime Try.func46 (by kernel_rfl) (Loops.none (by kernel_rfl)) fun ds out _ hr => by obtain ⟨m, state, atx, ⟨⟩⟩ := ds; exact (ev_i_Machine_isTime m state atx).trans hr

def E_i_IsRun : Tabs := (mkE tab [(11, m_i_ValidMachine), (46, m_i_Machine_isTime)] [])
set_option maxRecDepth 4000 in
theorem ek_i_IsRun : EnvOK Try.prog E_i_IsRun := (mkE_ok tab_ok mixed (AllF.cons ok_i_ValidMachine (AllF.cons ok_i_Machine_isTime AllF.nil)) AllX.nil)
theorem ev_i_IsRun (m : dMachine) (r : dRun) : evalF E_i_IsRun noL Try.f18 [.ro true tMachine, .ro true tRun] (.one false .bool) (m, r, ()) = g_i_IsRun m r := by kernel_rfl
def m_i_IsRun : FM := { ps := [.ro true tMachine, .ro true tRun], res := .one false .bool, run := fun x => g_i_IsRun x.1 x.2.1 }
set_option maxRecDepth 4000 in
theorem ok_i_IsRun : FmOK Try.prog 18 m_i_IsRun := @FmOK.made Try.prog E_i_IsRun ek_i_IsRun 18 Try.f18 noL m_i_IsRun Try.func18 (by kernel_rfl) (Loops.none (by kernel_rfl)) fun ds out _ hr => by obtain ⟨m, r, ⟨⟩⟩ := ds; exact (ev_i_IsRun m r).trans hr

def E_w_FnExactIsRun : Tabs := (mkE tab [(8, m_w_szMachine), (10, m_w_toMachine), (17, m_w_toRun), (16, m_s_IsRun), (18, m_i_IsRun), (12, m_w_eqMachine)] [])
set_option maxRecDepth 4000 in
theorem ek_w_FnExactIsRun : EnvOK Try.prog E_w_FnExactIsRun := (mkE_ok tab_ok mixed (AllF.cons ok_w_szMachine (AllF.cons ok_w_toMachine (AllF.cons ok_w_toRun (AllF.cons ok_s_IsRun (AllF.cons ok_i_IsRun (AllF.cons ok_w_eqMachine AllF.nil)))))) AllX.nil)
theorem ev_w_FnExactIsRun (aM : dMachine) (aR : dRun) : evalF E_w_FnExactIsRun noL Try.f5 [.ro true tMachine, .ro true tRun] (.one false .bool) (aM, aR, ()) = g_w_FnExactIsRun aM aR := by kernel_rfl
def m_w_FnExactIsRun : FM := { ps := [.ro true tMachine, .ro true tRun], res := .one false .bool, run := fun x => g_w_FnExactIsRun x.1 x.2.1 }
set_option maxRecDepth 4000 in
theorem ok_w_FnExactIsRun : FmOK Try.prog 5 m_w_FnExactIsRun := @FmOK.made Try.prog E_w_FnExactIsRun ek_w_FnExactIsRun 5 Try.f5 noL m_w_FnExactIsRun Try.func5 (by kernel_rfl) (Loops.none (by kernel_rfl)) fun ds out _ hr => by obtain ⟨aM, aR, ⟨⟩⟩ := ds; exact (ev_w_FnExactIsRun aM aR).trans hr

def E_w_toFloat32S : Tabs := (mkE tab [] [])
set_option maxRecDepth 4000 in
theorem ek_w_toFloat32S : EnvOK Try.prog E_w_toFloat32S := (mkE_ok tab_ok mixed AllF.nil AllX.nil)
def lm_L_w_toFloat32S_1 : LM := { mat := [], head := { slots := [(0, .dat false (.slice (.flt .f32))), (3, .cst (.sl (.row 0))), (4, .dat false (.int .i64))], blks := [.row false (.flt .f32)] }, out := { slots := [(3, .cst (.sl (.row 0)))], blks := [.row false (.flt .f32)] }, ex := 0, rets := false, run := iter L_w_toFloat32S_1 fuel }
def ll_w_toFloat32S : List (Nat × LP) := [(3, .lm lm_L_w_toFloat32S_1)]
theorem rd_L_w_toFloat32S_1 (rec' : ((List Nat) × Int × Unit) × ((List Nat) × Unit) → Option ((Unit) × ((List Nat) × Unit))) (a : (List Nat)) (i : Int) (r0 : (List Nat)) : round E_w_toFloat32S (lookL ll_w_toFloat32S) lm_L_w_toFloat32S_1 22 (loopAt Try.f20 0) rec' ((a, i, ()), (r0, ())) = L_w_toFloat32S_1 rec' ((a, i, ()), (r0, ())) := by kernel_rfl
theorem lo_w_toFloat32S : Loops E_w_toFloat32S (lookL ll_w_toFloat32S) Try.f20 := Loops.list (by kernel_rfl) (by kernel_rfl) ⟨LoopOK.iter (step := L_w_toFloat32S_1) (N := fun _ => fuel) (fun rec' x => by obtain ⟨⟨a, i, ⟨⟩⟩, ⟨r0, ⟨⟩⟩⟩ := x; exact rd_L_w_toFloat32S_1 rec' a i r0) fun _ => rfl, trivial⟩
theorem ev_w_toFloat32S (a : (List Nat)) : evalF E_w_toFloat32S (lookL ll_w_toFloat32S) Try.f20 [.ro false (.slice (.flt .f32))] (.one false (.slice (.flt .f32))) (a, ()) = g_w_toFloat32S a := by kernel_rfl
def m_w_toFloat32S : FM := { ps := [.ro false (.slice (.flt .f32))], res := .one false (.slice (.flt .f32)), run := fun x => g_w_toFloat32S x.1 }
set_option maxRecDepth 4000 in
theorem ok_w_toFloat32S : FmOK Try.prog 20 m_w_toFloat32S := @FmOK.made Try.prog E_w_toFloat32S ek_w_toFloat32S 20 Try.f20 (lookL ll_w_toFloat32S) m_w_toFloat32S Try.func20 (by kernel_rfl) lo_w_toFloat32S fun ds out _ hr => by obtain ⟨a, ⟨⟩⟩ := ds; exact (ev_w_toFloat32S a).trans hr

def E_s_l07Holds : Tabs := (mkE tab [(104, m_s_l07Length)] [])
set_option maxRecDepth 4000 in
theorem ek_s_l07Holds : EnvOK Try.prog E_s_l07Holds := (mkE_ok tab_ok mixed (AllF.cons ok_s_l07Length AllF.nil) AllX.nil)
theorem ev_s_l07Holds (m : dMachine) (r : dRun) (xx : dRule) (inputs : (List Nat)) : evalF E_s_l07Holds noL Try.f73 [.rptr tMachine, .rptr tRun, .rptr tRule, .ro false (.slice (.flt .f32))] (.one false .bool) (m, r, xx, inputs, ()) = g_s_l07Holds m r xx inputs := by kernel_rfl
def m_s_l07Holds : FM := { ps := [.rptr tMachine, .rptr tRun, .rptr tRule, .ro false (.slice (.flt .f32))], res := .one false .bool, run := fun x => g_s_l07Holds x.1 x.2.1 x.2.2.1 x.2.2.2.1 }
set_option maxRecDepth 4000 in
theorem ok_s_l07Holds : FmOK Try.prog 73 m_s_l07Holds := @FmOK.made Try.prog E_s_l07Holds ek_s_l07Holds 73 Try.f73 noL m_s_l07Holds Try.func73 (by kernel_rfl) (Loops.none (by kernel_rfl)) fun ds out _ hr => by obtain ⟨m, r, xx, inputs, ⟨⟩⟩ := ds; exact (ev_s_l07Holds m r xx inputs).trans hr

def E_s_l07First : Tabs := (mkE tab [(73, m_s_l07Holds)] [])
set_option maxRecDepth 4000 in
theorem ek_s_l07First : EnvOK Try.prog E_s_l07First := (mkE_ok tab_ok mixed (AllF.cons ok_s_l07Holds AllF.nil) AllX.nil)
def lm_L_s_l07First_1 : LM := { mat := [], head := { slots := [(0, .dat false (.ref tMachine)), (1, .dat false (.ref tRun)), (2, .dat false (.slice (.flt .f32))), (6, .dat false (.int .i64)), (12, .dat false (.int .i64)), (13, .dat false (.int .i64))], blks := [] }, out := { slots := [(6, .dat false (.int .i64))], blks := [] }, ex := 0, rets := true, run := iter L_s_l07First_1 fuel }
def ll_s_l07First : List (Nat × LP) := [(2, .lm lm_L_s_l07First_1)]
theorem rd_L_s_l07First_1 (rec' : (dMachine × dRun × (List Nat) × Int × Int × Int × Unit) × (Unit) → Option (Bool × ((Int × Unit) × (Unit)))) (m : dMachine) (r : dRun) (inputs : (List Nat)) (t6 : Int) (t12 : Int) (t13 : Int) : round E_s_l07First (lookL ll_s_l07First) lm_L_s_l07First_1 28 (loopAt Try.f47 0) rec' ((m, r, inputs, t6, t12, t13, ()), (())) = L_s_l07First_1 rec' ((m, r, inputs, t6, t12, t13, ()), (())) := by kernel_rfl
theorem lo_s_l07First : Loops E_s_l07First (lookL ll_s_l07First) Try.f47 := Loops.list (by kernel_rfl) (by kernel_rfl) ⟨LoopOK.iter (step := L_s_l07First_1) (N := fun _ => fuel) (fun rec' x => by obtain ⟨⟨m, r, inputs, t6, t12, t13, ⟨⟩⟩, ⟨⟨⟩⟩⟩ := x; exact rd_L_s_l07First_1 rec' m r inputs t6 t12 t13) fun _ => rfl, trivial⟩
theorem ev_s_l07First (m : dMachine) (r : dRun) (inputs : (List Nat)) : evalF E_s_l07First (lookL ll_s_l07First) Try.f47 [.rptr tMachine, .rptr tRun, .ro false (.slice (.flt .f32))] (.one false (.int .i64)) (m, r, inputs, ()) = g_s_l07First m r inputs := by kernel_rfl
def m_s_l07First : FM := { ps := [.rptr tMachine, .rptr tRun, .ro false (.slice (.flt .f32))], res := .one false (.int .i64), run := fun x => g_s_l07First x.1 x.2.1 x.2.2.1 }
set_option maxRecDepth 4000 in
theorem ok_s_l07First : FmOK Try.prog 47 m_s_l07First := @FmOK.made Try.prog E_s_l07First ek_s_l07First 47 Try.f47 (lookL ll_s_l07First) m_s_l07First Try.func47 (by kernel_rfl) lo_s_l07First fun ds out _ hr => by obtain ⟨m, r, inputs, ⟨⟩⟩ := ds; exact (ev_s_l07First m r inputs).trans hr

def E_s_FirstRule : Tabs := (mkE tab [(32, m_s_l07Is), (45, m_s_l07Run), (47, m_s_l07First)] [])
set_option maxRecDepth 4000 in
theorem ek_s_FirstRule : EnvOK Try.prog E_s_FirstRule := (mkE_ok tab_ok mixed (AllF.cons ok_s_l07Is (AllF.cons ok_s_l07Run (AllF.cons ok_s_l07First AllF.nil))) AllX.nil)
theorem ev_s_FirstRule (m : dMachine) (r : dRun) (inputs : (List Nat)) : evalF E_s_FirstRule noL Try.f19 [.ro true tMachine, .ro true tRun, .ro false (.slice (.flt .f32))] (.tup [(false, (.int .i64)), (false, .bool)]) (m, r, inputs, ()) = g_s_FirstRule m r inputs := by kernel_rfl
def m_s_FirstRule : FM := { ps := [.ro true tMachine, .ro true tRun, .ro false (.slice (.flt .f32))], res := .tup [(false, (.int .i64)), (false, .bool)], run := fun x => g_s_FirstRule x.1 x.2.1 x.2.2.1 }
set_option maxRecDepth 4000 in
theorem ok_s_FirstRule : FmOK Try.prog 19 m_s_FirstRule := @FmOK.made Try.prog E_s_FirstRule ek_s_FirstRule 19 Try.f19 noL m_s_FirstRule Try.func19 (by kernel_rfl) (Loops.none (by kernel_rfl)) fun ds out _ hr => by obtain ⟨m, r, inputs, ⟨⟩⟩ := ds; exact (ev_s_FirstRule m r inputs).trans hr

def E_i_Machine_holds : Tabs := (mkE tab [(72, m_i_Machine_length)] [])
set_option maxRecDepth 4000 in
theorem ek_i_Machine_holds : EnvOK Try.prog E_i_Machine_holds := (mkE_ok tab_ok mixed (AllF.cons ok_i_Machine_length AllF.nil) AllX.nil)
theorem ev_i_Machine_holds (m : dMachine) (rule : dRule) (r : dRun) (inputs : (List Nat)) : evalF E_i_Machine_holds noL Try.f75 [.rptr tMachine, .ro true tRule, .ro true tRun, .ro false (.slice (.flt .f32))] (.one false .bool) (m, rule, r, inputs, ()) = g_i_Machine_holds m rule r inputs := by kernel_rfl
def m_i_Machine_holds : FM := { ps := [.rptr tMachine, .ro true tRule, .ro true tRun, .ro false (.slice (.flt .f32))], res := .one false .bool, run := fun x => g_i_Machine_holds x.1 x.2.1 x.2.2.1 x.2.2.2.1 }
set_option maxRecDepth 4000 in
theorem ok_i_Machine_holds : FmOK Try.prog 75 m_i_Machine_holds := @FmOK.made Try.prog E_i_Machine_holds ek_i_Machine_holds 75 Try.f75 noL m_i_Machine_holds Try.func75 (by kernel_rfl) (Loops.none (by kernel_rfl)) fun ds out _ hr => by obtain ⟨m, rule, r, inputs, ⟨⟩⟩ := ds; exact (ev_i_Machine_holds m rule r inputs).trans hr

def E_i_Machine_first_1 : Tabs := (mkE tab [(75, m_i_Machine_holds)] [])
set_option maxRecDepth 4000 in
theorem ek_i_Machine_first_1 : EnvOK Try.prog E_i_Machine_first_1 := (mkE_ok tab_ok mixed (AllF.cons ok_i_Machine_holds AllF.nil) AllX.nil)
theorem ev_i_Machine_first_1 (rule : dRule) (p1 : dMachine) (p2 : dRun) (p3 : (List Nat)) : evalF E_i_Machine_first_1 noL Try.f74 [.ro true tRule, .rptr (.ref tMachine), .rptr tRun, .rptr (.slice (.flt .f32))] (.one false .bool) (rule, p1, p2, p3, ()) = g_i_Machine_first_1 rule p1 p2 p3 := by kernel_rfl
def m_i_Machine_first_1 : FM := { ps := [.ro true tRule, .rptr (.ref tMachine), .rptr tRun, .rptr (.slice (.flt .f32))], res := .one false .bool, run := fun x => g_i_Machine_first_1 x.1 x.2.1 x.2.2.1 x.2.2.2.1 }
set_option maxRecDepth 4000 in
theorem ok_i_Machine_first_1 : FmOK Try.prog 74 m_i_Machine_first_1 := @FmOK.made Try.prog E_i_Machine_first_1 ek_i_Machine_first_1 74 Try.f74 noL m_i_Machine_first_1 Try.func74 (by kernel_rfl) (Loops.none (by kernel_rfl)) fun ds out _ hr => by obtain ⟨rule, p1, p2, p3, ⟨⟩⟩ := ds; exact (ev_i_Machine_first_1 rule p1 p2 p3).trans hr

def E_slices_IndexFunc_i_Rule_i_Rule_v2 : Tabs := (mkE tab [(74, m_i_Machine_first_1)] [])
set_option maxRecDepth 4000 in
theorem ek_slices_IndexFunc_i_Rule_i_Rule_v2 : EnvOK Try.prog E_slices_IndexFunc_i_Rule_i_Rule_v2 := (mkE_ok tab_ok mixed (AllF.cons ok_i_Machine_first_1 AllF.nil) AllX.nil)
def lm_L_slices_IndexFunc_i_Rule_i_Rule_v2_1 : LM := { mat := [], head := { slots := [(0, .dat false (.slice tRule)), (1, .fnc 74 [(.ref tMachine), tRun, (.slice (.flt .f32))]), (4, .dat false (.int .i64)), (7, .dat false (.int .i64)), (8, .dat false (.int .i64))], blks := [] }, out := { slots := [(4, .dat false (.int .i64))], blks := [] }, ex := 0, rets := true, run := iter L_slices_IndexFunc_i_Rule_i_Rule_v2_1 fuel }
def ll_slices_IndexFunc_i_Rule_i_Rule_v2 : List (Nat × LP) := [(2, .lm lm_L_slices_IndexFunc_i_Rule_i_Rule_v2_1)]
theorem rd_L_slices_IndexFunc_i_Rule_i_Rule_v2_1 (rec' : ((List dRule) × (dMachine × (dRun × ((List Nat) × Unit))) × Int × Int × Int × Unit) × (Unit) → Option (Bool × ((Int × Unit) × (Unit)))) (s : (List dRule)) (f : (dMachine × (dRun × ((List Nat) × Unit)))) (t4 : Int) (t7 : Int) (t8 : Int) : round E_slices_IndexFunc_i_Rule_i_Rule_v2 (lookL ll_slices_IndexFunc_i_Rule_i_Rule_v2) lm_L_slices_IndexFunc_i_Rule_i_Rule_v2_1 19 (loopAt Try.f67 0) rec' ((s, f, t4, t7, t8, ()), (())) = L_slices_IndexFunc_i_Rule_i_Rule_v2_1 rec' ((s, f, t4, t7, t8, ()), (())) := by kernel_rfl
theorem lo_slices_IndexFunc_i_Rule_i_Rule_v2 : Loops E_slices_IndexFunc_i_Rule_i_Rule_v2 (lookL ll_slices_IndexFunc_i_Rule_i_Rule_v2) Try.f67 := Loops.list (by kernel_rfl) (by kernel_rfl) ⟨LoopOK.iter (step := L_slices_IndexFunc_i_Rule_i_Rule_v2_1) (N := fun _ => fuel) (fun rec' x => by obtain ⟨⟨s, f, t4, t7, t8, ⟨⟩⟩, ⟨⟨⟩⟩⟩ := x; exact rd_L_slices_IndexFunc_i_Rule_i_Rule_v2_1 rec' s f t4 t7 t8) fun _ => rfl, trivial⟩
theorem ev_slices_IndexFunc_i_Rule_i_Rule_v2 (s : (List dRule)) (f : (dMachine × (dRun × ((List Nat) × Unit)))) : evalF E_slices_IndexFunc_i_Rule_i_Rule_v2 (lookL ll_slices_IndexFunc_i_Rule_i_Rule_v2) Try.f67 [.ro false (.slice tRule), .fnc 74 [(.ref tMachine), tRun, (.slice (.flt .f32))]] (.one false (.int .i64)) (s, f, ()) = g_slices_IndexFunc_i_Rule_i_Rule_v2 s f := by kernel_rfl
def m_slices_IndexFunc_i_Rule_i_Rule_v2 : FM := { ps := [.ro false (.slice tRule), .fnc 74 [(.ref tMachine), tRun, (.slice (.flt .f32))]], res := .one false (.int .i64), run := fun x => g_slices_IndexFunc_i_Rule_i_Rule_v2 x.1 x.2.1 }
set_option maxRecDepth 4000 in
theorem ok_slices_IndexFunc_i_Rule_i_Rule_v2 : FmOK Try.prog 67 m_slices_IndexFunc_i_Rule_i_Rule_v2 := @FmOK.made Try.prog E_slices_IndexFunc_i_Rule_i_Rule_v2 ek_slices_IndexFunc_i_Rule_i_Rule_v2 67 Try.f67 (lookL ll_slices_IndexFunc_i_Rule_i_Rule_v2) m_slices_IndexFunc_i_Rule_i_Rule_v2 Try.func67 (by kernel_rfl) lo_slices_IndexFunc_i_Rule_i_Rule_v2 fun ds out _ hr => by obtain ⟨s, f, ⟨⟩⟩ := ds; exact (ev_slices_IndexFunc_i_Rule_i_Rule_v2 s f).trans hr

def E_i_Machine_first : Tabs := (mkE tab [(67, m_slices_IndexFunc_i_Rule_i_Rule_v2)] [])
set_option maxRecDepth 4000 in
theorem ek_i_Machine_first : EnvOK Try.prog E_i_Machine_first := (mkE_ok tab_ok mixed (AllF.cons ok_slices_IndexFunc_i_Rule_i_Rule_v2 AllF.nil) AllX.nil)
theorem ev_i_Machine_first (m : dMachine) (r : dRun) (inputs : (List Nat)) : evalF E_i_Machine_first noL Try.f48 [.rptr tMachine, .ro true tRun, .ro false (.slice (.flt .f32))] (.one false (.int .i64)) (m, r, inputs, ()) = g_i_Machine_first m r inputs := by kernel_rfl
def m_i_Machine_first : FM := { ps := [.rptr tMachine, .ro true tRun, .ro false (.slice (.flt .f32))], res := .one false (.int .i64), run := fun x => g_i_Machine_first x.1 x.2.1 x.2.2.1 }
set_option maxRecDepth 4000 in
theorem ok_i_Machine_first : FmOK Try.prog 48 m_i_Machine_first := @FmOK.made Try.prog E_i_Machine_first ek_i_Machine_first 48 Try.f48 noL m_i_Machine_first Try.func48 (by kernel_rfl) (Loops.none (by kernel_rfl)) fun ds out _ hr => by obtain ⟨m, r, inputs, ⟨⟩⟩ := ds; exact (ev_i_Machine_first m r inputs).trans hr

def E_i_FirstRule : Tabs := (mkE tab [(18, m_i_IsRun), (48, m_i_Machine_first)] [])
set_option maxRecDepth 4000 in
theorem ek_i_FirstRule : EnvOK Try.prog E_i_FirstRule := (mkE_ok tab_ok mixed (AllF.cons ok_i_IsRun (AllF.cons ok_i_Machine_first AllF.nil)) AllX.nil)
theorem ev_i_FirstRule (m : dMachine) (r : dRun) (inputs : (List Nat)) : evalF E_i_FirstRule noL Try.f21 [.ro true tMachine, .ro true tRun, .ro false (.slice (.flt .f32))] (.tup [(false, (.int .i64)), (false, .bool)]) (m, r, inputs, ()) = g_i_FirstRule m r inputs := by kernel_rfl
def m_i_FirstRule : FM := { ps := [.ro true tMachine, .ro true tRun, .ro false (.slice (.flt .f32))], res := .tup [(false, (.int .i64)), (false, .bool)], run := fun x => g_i_FirstRule x.1 x.2.1 x.2.2.1 }
set_option maxRecDepth 4000 in
theorem ok_i_FirstRule : FmOK Try.prog 21 m_i_FirstRule := @FmOK.made Try.prog E_i_FirstRule ek_i_FirstRule 21 Try.f21 noL m_i_FirstRule Try.func21 (by kernel_rfl) (Loops.none (by kernel_rfl)) fun ds out _ hr => by obtain ⟨m, r, inputs, ⟨⟩⟩ := ds; exact (ev_i_FirstRule m r inputs).trans hr

def E_w_eqFloat32S : Tabs := (mkE tab [(49, m_w_sameFloat)] [])
set_option maxRecDepth 4000 in
theorem ek_w_eqFloat32S : EnvOK Try.prog E_w_eqFloat32S := (mkE_ok tab_ok mixed (AllF.cons ok_w_sameFloat AllF.nil) AllX.nil)
def lm_L_w_eqFloat32S_1 : LM := { mat := [], head := { slots := [(0, .dat false (.slice (.flt .f32))), (1, .dat false (.slice (.flt .f32))), (4, .dat false .bool), (5, .dat false (.int .i64))], blks := [] }, out := { slots := [(4, .dat false .bool)], blks := [] }, ex := 0, rets := true, run := iter L_w_eqFloat32S_1 fuel }
def ll_w_eqFloat32S : List (Nat × LP) := [(4, .lm lm_L_w_eqFloat32S_1)]
theorem rd_L_w_eqFloat32S_1 (rec' : ((List Nat) × (List Nat) × Bool × Int × Unit) × (Unit) → Option (Bool × ((Bool × Unit) × (Unit)))) (a : (List Nat)) (b : (List Nat)) (t4 : Bool) (i : Int) : round E_w_eqFloat32S (lookL ll_w_eqFloat32S) lm_L_w_eqFloat32S_1 29 (loopAt Try.f22 0) rec' ((a, b, t4, i, ()), (())) = L_w_eqFloat32S_1 rec' ((a, b, t4, i, ()), (())) := by kernel_rfl
theorem lo_w_eqFloat32S : Loops E_w_eqFloat32S (lookL ll_w_eqFloat32S) Try.f22 := Loops.list (by kernel_rfl) (by kernel_rfl) ⟨LoopOK.iter (step := L_w_eqFloat32S_1) (N := fun _ => fuel) (fun rec' x => by obtain ⟨⟨a, b, t4, i, ⟨⟩⟩, ⟨⟨⟩⟩⟩ := x; exact rd_L_w_eqFloat32S_1 rec' a b t4 i) fun _ => rfl, trivial⟩
theorem ev_w_eqFloat32S (a : (List Nat)) (b : (List Nat)) : evalF E_w_eqFloat32S (lookL ll_w_eqFloat32S) Try.f22 [.ro false (.slice (.flt .f32)), .ro false (.slice (.flt .f32))] (.one false .bool) (a, b, ()) = g_w_eqFloat32S a b := by kernel_rfl
def m_w_eqFloat32S : FM := { ps := [.ro false (.slice (.flt .f32)), .ro false (.slice (.flt .f32))], res := .one false .bool, run := fun x => g_w_eqFloat32S x.1 x.2.1 }
set_option maxRecDepth 4000 in
theorem ok_w_eqFloat32S : FmOK Try.prog 22 m_w_eqFloat32S := @FmOK.made Try.prog E_w_eqFloat32S ek_w_eqFloat32S 22 Try.f22 (lookL ll_w_eqFloat32S) m_w_eqFloat32S Try.func22 (by kernel_rfl) lo_w_eqFloat32S fun ds out _ hr => by obtain ⟨a, b, ⟨⟩⟩ := ds; exact (ev_w_eqFloat32S a b).trans hr

def E_w_FnExactFirstRule : Tabs := (mkE tab [(8, m_w_szMachine), (10, m_w_toMachine), (17, m_w_toRun), (20, m_w_toFloat32S), (19, m_s_FirstRule), (21, m_i_FirstRule), (12, m_w_eqMachine), (22, m_w_eqFloat32S)] [])
set_option maxRecDepth 4000 in
theorem ek_w_FnExactFirstRule : EnvOK Try.prog E_w_FnExactFirstRule := (mkE_ok tab_ok mixed (AllF.cons ok_w_szMachine (AllF.cons ok_w_toMachine (AllF.cons ok_w_toRun (AllF.cons ok_w_toFloat32S (AllF.cons ok_s_FirstRule (AllF.cons ok_i_FirstRule (AllF.cons ok_w_eqMachine (AllF.cons ok_w_eqFloat32S AllF.nil)))))))) AllX.nil)
theorem ev_w_FnExactFirstRule (aM : dMachine) (aR : dRun) (aInputs : (List Nat)) : evalF E_w_FnExactFirstRule noL Try.f6 [.ro true tMachine, .ro true tRun, .ro false (.slice (.flt .f32))] (.one false .bool) (aM, aR, aInputs, ()) = g_w_FnExactFirstRule aM aR aInputs := by kernel_rfl
def m_w_FnExactFirstRule : FM := { ps := [.ro true tMachine, .ro true tRun, .ro false (.slice (.flt .f32))], res := .one false .bool, run := fun x => g_w_FnExactFirstRule x.1 x.2.1 x.2.2.1 }
set_option maxRecDepth 4000 in
theorem ok_w_FnExactFirstRule : FmOK Try.prog 6 m_w_FnExactFirstRule := @FmOK.made Try.prog E_w_FnExactFirstRule ek_w_FnExactFirstRule 6 Try.f6 noL m_w_FnExactFirstRule Try.func6 (by kernel_rfl) (Loops.none (by kernel_rfl)) fun ds out _ hr => by obtain ⟨aM, aR, aInputs, ⟨⟩⟩ := ds; exact (ev_w_FnExactFirstRule aM aR aInputs).trans hr

def E_w_toPacking : Tabs := (mkE tab [] [])
set_option maxRecDepth 4000 in
theorem ek_w_toPacking : EnvOK Try.prog E_w_toPacking := (mkE_ok tab_ok mixed AllF.nil AllX.nil)
theorem ev_w_toPacking (a : dPacking) : evalF E_w_toPacking noL Try.f24 [.ro true tPacking] (.one true tPacking) (a, ()) = g_w_toPacking a := by kernel_rfl
def m_w_toPacking : FM := { ps := [.ro true tPacking], res := .one true tPacking, run := fun x => some (t_w_toPacking x.1) }
set_option maxRecDepth 4000 in
theorem ok_w_toPacking : FmOK Try.prog 24 m_w_toPacking := @FmOK.made Try.prog E_w_toPacking ek_w_toPacking 24 Try.f24 noL m_w_toPacking Try.func24 (by kernel_rfl) (Loops.none (by kernel_rfl)) fun ds out _ hr => by obtain ⟨a, ⟨⟩⟩ := ds; exact (ev_w_toPacking a).trans ((q_w_toPacking a).trans hr)

def E_s_l06Bits : Tabs := (mkE tab [(42, m_s_l00In)] [])
set_option maxRecDepth 4000 in
theorem ek_s_l06Bits : EnvOK Try.prog E_s_l06Bits := (mkE_ok tab_ok mixed (AllF.cons ok_s_l00In AllF.nil) AllX.nil)
theorem ev_s_l06Bits (bits : Int) : evalF E_s_l06Bits noL Try.f76 [.ro false (.int .i64)] (.one false .bool) (bits, ()) = g_s_l06Bits bits := by kernel_rfl
def m_s_l06Bits : FM := { ps := [.ro false (.int .i64)], res := .one false .bool, run := fun x => some (t_s_l06Bits x.1) }
set_option maxRecDepth 4000 in
theorem ok_s_l06Bits : FmOK Try.prog 76 m_s_l06Bits := @FmOK.made Try.prog E_s_l06Bits ek_s_l06Bits 76 Try.f76 noL m_s_l06Bits Try.func76 (by kernel_rfl) (Loops.none (by kernel_rfl)) fun ds out _ hr => by obtain ⟨bits, ⟨⟩⟩ := ds; exact (ev_s_l06Bits bits).trans ((q_s_l06Bits bits).trans hr)

def E_s_l01Finite : Tabs := (mkE tab [] [])
set_option maxRecDepth 4000 in
theorem ek_s_l01Finite : EnvOK Try.prog E_s_l01Finite := (mkE_ok tab_ok mixed AllF.nil AllX.nil)
theorem ev_s_l01Finite (xx : Nat) : evalF E_s_l01Finite noL Try.f105 [.ro false (.flt .f32)] (.one false .bool) (xx, ()) = g_s_l01Finite xx := by kernel_rfl
def m_s_l01Finite : FM := { ps := [.ro false (.flt .f32)], res := .one false .bool, run := fun x => some (t_s_l01Finite x.1) }
set_option maxRecDepth 4000 in
theorem ok_s_l01Finite : FmOK Try.prog 105 m_s_l01Finite := @FmOK.made Try.prog E_s_l01Finite ek_s_l01Finite 105 Try.f105 noL m_s_l01Finite Try.func105 (by kernel_rfl) (Loops.none (by kernel_rfl)) fun ds out _ hr => by obtain ⟨xx, ⟨⟩⟩ := ds; exact (ev_s_l01Finite xx).trans ((q_s_l01Finite xx).trans hr)

def E_s_l06Reach : Tabs := (mkE tab [(105, m_s_l01Finite)] [])
set_option maxRecDepth 4000 in
theorem ek_s_l06Reach : EnvOK Try.prog E_s_l06Reach := (mkE_ok tab_ok mixed (AllF.cons ok_s_l01Finite AllF.nil) AllX.nil)
theorem ev_s_l06Reach (xx : Nat) : evalF E_s_l06Reach noL Try.f77 [.ro false (.flt .f32)] (.one false .bool) (xx, ()) = g_s_l06Reach xx := by kernel_rfl
def m_s_l06Reach : FM := { ps := [.ro false (.flt .f32)], res := .one false .bool, run := fun x => some (t_s_l06Reach x.1) }
set_option maxRecDepth 4000 in
theorem ok_s_l06Reach : FmOK Try.prog 77 m_s_l06Reach := @FmOK.made Try.prog E_s_l06Reach ek_s_l06Reach 77 Try.f77 noL m_s_l06Reach Try.func77 (by kernel_rfl) (Loops.none (by kernel_rfl)) fun ds out _ hr => by obtain ⟨xx, ⟨⟩⟩ := ds; exact (ev_s_l06Reach xx).trans ((q_s_l06Reach xx).trans hr)

def E_s_l06Is : Tabs := (mkE tab [(76, m_s_l06Bits), (77, m_s_l06Reach)] [])
set_option maxRecDepth 4000 in
theorem ek_s_l06Is : EnvOK Try.prog E_s_l06Is := (mkE_ok tab_ok mixed (AllF.cons ok_s_l06Bits (AllF.cons ok_s_l06Reach AllF.nil)) AllX.nil)
theorem ev_s_l06Is (p : dPacking) : evalF E_s_l06Is noL Try.f50 [.rptr tPacking] (.one false .bool) (p, ()) = g_s_l06Is p := by kernel_rfl
def m_s_l06Is : FM := { ps := [.rptr tPacking], res := .one false .bool, run := fun x => some (t_s_l06Is x.1) }
set_option maxRecDepth 4000 in
theorem ok_s_l06Is : FmOK Try.prog 50 m_s_l06Is := @FmOK.made Try.prog E_s_l06Is ek_s_l06Is 50 Try.f50 noL m_s_l06Is Try.func50 (by kernel_rfl) (Loops.none (by kernel_rfl)) fun ds out _ hr => by obtain ⟨p, ⟨⟩⟩ := ds; exact (ev_s_l06Is p).trans ((q_s_l06Is p).trans hr)

def E_s_l06Count : Tabs := (mkE tab [(42, m_s_l00In)] [])
set_option maxRecDepth 4000 in
theorem ek_s_l06Count : EnvOK Try.prog E_s_l06Count := (mkE_ok tab_ok mixed (AllF.cons ok_s_l00In AllF.nil) AllX.nil)
theorem ev_s_l06Count (count : Int) : evalF E_s_l06Count noL Try.f51 [.ro false (.int .i64)] (.one false .bool) (count, ()) = g_s_l06Count count := by kernel_rfl
def m_s_l06Count : FM := { ps := [.ro false (.int .i64)], res := .one false .bool, run := fun x => some (t_s_l06Count x.1) }
set_option maxRecDepth 4000 in
theorem ok_s_l06Count : FmOK Try.prog 51 m_s_l06Count := @FmOK.made Try.prog E_s_l06Count ek_s_l06Count 51 Try.f51 noL m_s_l06Count Try.func51 (by kernel_rfl) (Loops.none (by kernel_rfl)) fun ds out _ hr => by obtain ⟨count, ⟨⟩⟩ := ds; exact (ev_s_l06Count count).trans ((q_s_l06Count count).trans hr)

def E_s_l06Size : Tabs := (mkE tab [] [])
set_option maxRecDepth 4000 in
theorem ek_s_l06Size : EnvOK Try.prog E_s_l06Size := (mkE_ok tab_ok mixed AllF.nil AllX.nil)
theorem ev_s_l06Size (p : dPacking) (count : Int) : evalF E_s_l06Size noL Try.f52 [.rptr tPacking, .ro false (.int .i64)] (.one false (.int .i64)) (p, count, ()) = g_s_l06Size p count := by kernel_rfl
def m_s_l06Size : FM := { ps := [.rptr tPacking, .ro false (.int .i64)], res := .one false (.int .i64), run := fun x => some (t_s_l06Size x.1 x.2.1) }
set_option maxRecDepth 4000 in
theorem ok_s_l06Size : FmOK Try.prog 52 m_s_l06Size := @FmOK.made Try.prog E_s_l06Size ek_s_l06Size 52 Try.f52 noL m_s_l06Size Try.func52 (by kernel_rfl) (Loops.none (by kernel_rfl)) fun ds out _ hr => by obtain ⟨p, count, ⟨⟩⟩ := ds; exact (ev_s_l06Size p count).trans ((q_s_l06Size p count).trans hr)

def E_s_l06Parts : Tabs := (mkE tab [] [])
set_option maxRecDepth 4000 in
theorem ek_s_l06Parts : EnvOK Try.prog E_s_l06Parts := (mkE_ok tab_ok mixed AllF.nil AllX.nil)
def lm_L_s_l06Parts_1 : LM := { mat := [], head := { slots := [(0, .dat false (.ref tPacking)), (1, .dat false (.int .i64)), (5, .cst (.sl (.row 0))), (6, .dat false (.int .i64))], blks := [.row false (.int .i64)] }, out := { slots := [(5, .cst (.sl (.row 0)))], blks := [.row false (.int .i64)] }, ex := 0, rets := false, run := iter L_s_l06Parts_1 fuel }
def ll_s_l06Parts : List (Nat × LP) := [(3, .lm lm_L_s_l06Parts_1)]
theorem rd_L_s_l06Parts_1 (rec' : (dPacking × Int × Int × Unit) × ((List Int) × Unit) → Option ((Unit) × ((List Int) × Unit))) (p : dPacking) (count : Int) (i : Int) (r0 : (List Int)) : round E_s_l06Parts (lookL ll_s_l06Parts) lm_L_s_l06Parts_1 28 (loopAt Try.f79 0) rec' ((p, count, i, ()), (r0, ())) = L_s_l06Parts_1 rec' ((p, count, i, ()), (r0, ())) := by kernel_rfl
theorem lo_s_l06Parts : Loops E_s_l06Parts (lookL ll_s_l06Parts) Try.f79 := Loops.list (by kernel_rfl) (by kernel_rfl) ⟨LoopOK.iter (step := L_s_l06Parts_1) (N := fun _ => fuel) (fun rec' x => by obtain ⟨⟨p, count, i, ⟨⟩⟩, ⟨r0, ⟨⟩⟩⟩ := x; exact rd_L_s_l06Parts_1 rec' p count i r0) fun _ => rfl, trivial⟩
theorem ev_s_l06Parts (p : dPacking) (count : Int) : evalF E_s_l06Parts (lookL ll_s_l06Parts) Try.f79 [.rptr tPacking, .ro false (.int .i64)] (.one false (.slice (.int .i64))) (p, count, ()) = g_s_l06Parts p count := by kernel_rfl
def m_s_l06Parts : FM := { ps := [.rptr tPacking, .ro false (.int .i64)], res := .one false (.slice (.int .i64)), run := fun x => g_s_l06Parts x.1 x.2.1 }
set_option maxRecDepth 4000 in
theorem ok_s_l06Parts : FmOK Try.prog 79 m_s_l06Parts := @FmOK.made Try.prog E_s_l06Parts ek_s_l06Parts 79 Try.f79 (lookL ll_s_l06Parts) m_s_l06Parts Try.func79 (by kernel_rfl) lo_s_l06Parts fun ds out _ hr => by obtain ⟨p, count, ⟨⟩⟩ := ds; exact (ev_s_l06Parts p count).trans hr
end Go.Fw.C
