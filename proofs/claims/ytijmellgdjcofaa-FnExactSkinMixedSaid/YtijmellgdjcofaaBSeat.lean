/- The functions of the translation compute what the plain functions compute. No condition. -/
import Derived.Test.YtijmellgdjcofaaBPure
import Derived.Test.YtijmellgdjcofaaProg
import Derived.KernelRfl
set_option linter.unusedVariables false
namespace Go.Fw.B
open Go.Fw Go.Proofs Go.RowKit
noncomputable section
def tab : List (Nat × TI) := [
  (2, { und := .int .i64, size := 1, bytes := 8, zero := [.int .i64 0], ty := (.int .i64) }),
  (3, { und := .int .i64, size := 1, bytes := 8, zero := [.int .i64 0], ty := (.int .i64) }),
  (4, { und := .bool, size := 1, bytes := 1, zero := [.bool false], ty := .bool }),
  (34, { und := .slice 35, size := 1, bytes := 24, zero := [.sl .nil], ty := (.slice (.flt .f32)) }),
  (35, { und := .flt .f32, size := 1, bytes := 4, zero := [.flt .f32 0], ty := (.flt .f32) }),
  (37, { und := .struct [(0, 35), (1, 35), (2, 35)], size := 3, bytes := 12, zero := [.flt .f32 0, .flt .f32 0, .flt .f32 0], ty := tVec }),
  (42, { und := .slice 43, size := 1, bytes := 24, zero := [.sl .nil], ty := (.slice tVec) }),
  (43, { und := .struct [(0, 35), (1, 35), (2, 35)], size := 3, bytes := 12, zero := [.flt .f32 0, .flt .f32 0, .flt .f32 0], ty := tVec }),
  (48, { und := .slice 185, size := 1, bytes := 24, zero := [.sl .nil], ty := (.slice tRootKey) }),
  (50, { und := .struct [(0, 48)], size := 1, bytes := 24, zero := [.sl .nil], ty := tSkel }),
  (51, { und := .slice 129, size := 1, bytes := 24, zero := [.sl .nil], ty := (.slice tSkinPoint) }),
  (55, { und := .slice 181, size := 1, bytes := 24, zero := [.sl .nil], ty := (.slice tRootKey) }),
  (57, { und := .struct [(0, 55)], size := 1, bytes := 24, zero := [.sl .nil], ty := tSkel }),
  (59, { und := .slice 135, size := 1, bytes := 24, zero := [.sl .nil], ty := (.slice tSkinPoint) }),
  (71, { und := .flt .f64, size := 1, bytes := 8, zero := [.flt .f64 0], ty := (.flt .f64) }),
  (73, { und := .slice 193, size := 1, bytes := 24, zero := [.sl .nil], ty := (.slice tTurn) }),
  (75, { und := .struct [(0, 37), (3, 73)], size := 4, bytes := 40, zero := [.flt .f32 0, .flt .f32 0, .flt .f32 0, .sl .nil], ty := tPose }),
  (77, { und := .slice 160, size := 1, bytes := 24, zero := [.sl .nil], ty := (.slice tTurn) }),
  (81, { und := .struct [(0, 43), (3, 77)], size := 4, bytes := 40, zero := [.flt .f32 0, .flt .f32 0, .flt .f32 0, .sl .nil], ty := tPose }),
  (98, { und := .slice 2, size := 1, bytes := 24, zero := [.sl .nil], ty := (.slice (.int .i64)) }),
  (107, { und := .other, size := 1, bytes := 8, zero := [.pnil], ty := .unit }),
  (129, { und := .struct [(0, 37), (3, 98), (4, 34)], size := 5, bytes := 64, zero := [.flt .f32 0, .flt .f32 0, .flt .f32 0, .sl .nil, .sl .nil], ty := tSkinPoint }),
  (131, { und := .other, size := 1, bytes := 8, zero := [.pnil], ty := .unit }),
  (135, { und := .struct [(0, 43), (3, 98), (4, 34)], size := 5, bytes := 64, zero := [.flt .f32 0, .flt .f32 0, .flt .f32 0, .sl .nil, .sl .nil], ty := tSkinPoint }),
  (142, { und := .other, size := 1, bytes := 8, zero := [.pnil], ty := .unit }),
  (160, { und := .struct [(0, 35), (1, 35), (2, 35), (3, 35)], size := 4, bytes := 16, zero := [.flt .f32 0, .flt .f32 0, .flt .f32 0, .flt .f32 0], ty := tTurn }),
  (181, { und := .struct [(0, 2), (1, 43)], size := 4, bytes := 24, zero := [.int .i64 0, .flt .f32 0, .flt .f32 0, .flt .f32 0], ty := tRootKey }),
  (185, { und := .struct [(0, 2), (1, 37)], size := 4, bytes := 24, zero := [.int .i64 0, .flt .f32 0, .flt .f32 0, .flt .f32 0], ty := tRootKey }),
  (193, { und := .struct [(0, 35), (1, 35), (2, 35), (3, 35)], size := 4, bytes := 16, zero := [.flt .f32 0, .flt .f32 0, .flt .f32 0, .flt .f32 0], ty := tTurn })]
theorem tab_ok : TabOK Try.prog (lookT tab) := tabB_spec (by kernel_rfl)
theorem mixed : Try.prog.follows .mixedOrders = true := by kernel_rfl
def E_w_szBoneS : Tabs := (mkE tab [] [])
set_option maxRecDepth 4000 in
theorem ek_w_szBoneS : EnvOK Try.prog E_w_szBoneS := (mkE_ok tab_ok mixed AllF.nil AllX.nil)
theorem ev_w_szBoneS (a : (List dRootKey)) (left : Int) : evalF E_w_szBoneS noL Try.f91 [.ro false (.slice tRootKey), .ro false (.int .i64)] (.one false (.int .i64)) (a, left, ()) = g_w_szBoneS a left := by kernel_rfl
def m_w_szBoneS : FM := { ps := [.ro false (.slice tRootKey), .ro false (.int .i64)], res := .one false (.int .i64), run := fun x => some (t_w_szBoneS x.1 x.2.1) }
set_option maxRecDepth 4000 in
theorem ok_w_szBoneS : FmOK Try.prog 91 m_w_szBoneS := @FmOK.made Try.prog E_w_szBoneS ek_w_szBoneS 91 Try.f91 noL m_w_szBoneS Try.func91 (by kernel_rfl) (Loops.none (by kernel_rfl)) fun ds out _ hr => by obtain ⟨a, left, ⟨⟩⟩ := ds; exact (ev_w_szBoneS a left).trans ((q_w_szBoneS a left).trans hr)

def E_w_szSkeleton : Tabs := (mkE tab [(91, m_w_szBoneS)] [])
set_option maxRecDepth 4000 in
theorem ek_w_szSkeleton : EnvOK Try.prog E_w_szSkeleton := (mkE_ok tab_ok mixed (AllF.cons ok_w_szBoneS AllF.nil) AllX.nil)
theorem ev_w_szSkeleton (a : dSkel) (left : Int) : evalF E_w_szSkeleton noL Try.f23 [.ro true tSkel, .ro false (.int .i64)] (.one false (.int .i64)) (a, left, ()) = g_w_szSkeleton a left := by kernel_rfl
def m_w_szSkeleton : FM := { ps := [.ro true tSkel, .ro false (.int .i64)], res := .one false (.int .i64), run := fun x => some (t_w_szSkeleton x.1 x.2.1) }
set_option maxRecDepth 4000 in
theorem ok_w_szSkeleton : FmOK Try.prog 23 m_w_szSkeleton := @FmOK.made Try.prog E_w_szSkeleton ek_w_szSkeleton 23 Try.f23 noL m_w_szSkeleton Try.func23 (by kernel_rfl) (Loops.none (by kernel_rfl)) fun ds out _ hr => by obtain ⟨a, left, ⟨⟩⟩ := ds; exact (ev_w_szSkeleton a left).trans ((q_w_szSkeleton a left).trans hr)

def E_w_szTurnS : Tabs := (mkE tab [] [])
set_option maxRecDepth 4000 in
theorem ek_w_szTurnS : EnvOK Try.prog E_w_szTurnS := (mkE_ok tab_ok mixed AllF.nil AllX.nil)
theorem ev_w_szTurnS (a : (List dTurn)) (left : Int) : evalF E_w_szTurnS noL Try.f117 [.ro false (.slice tTurn), .ro false (.int .i64)] (.one false (.int .i64)) (a, left, ()) = g_w_szTurnS a left := by kernel_rfl
def m_w_szTurnS : FM := { ps := [.ro false (.slice tTurn), .ro false (.int .i64)], res := .one false (.int .i64), run := fun x => some (t_w_szTurnS x.1 x.2.1) }
set_option maxRecDepth 4000 in
theorem ok_w_szTurnS : FmOK Try.prog 117 m_w_szTurnS := @FmOK.made Try.prog E_w_szTurnS ek_w_szTurnS 117 Try.f117 noL m_w_szTurnS Try.func117 (by kernel_rfl) (Loops.none (by kernel_rfl)) fun ds out _ hr => by obtain ⟨a, left, ⟨⟩⟩ := ds; exact (ev_w_szTurnS a left).trans ((q_w_szTurnS a left).trans hr)

def E_w_szPose : Tabs := (mkE tab [(117, m_w_szTurnS)] [])
set_option maxRecDepth 4000 in
theorem ek_w_szPose : EnvOK Try.prog E_w_szPose := (mkE_ok tab_ok mixed (AllF.cons ok_w_szTurnS AllF.nil) AllX.nil)
theorem ev_w_szPose (a : dPose) (left : Int) : evalF E_w_szPose noL Try.f38 [.ro true tPose, .ro false (.int .i64)] (.one false (.int .i64)) (a, left, ()) = g_w_szPose a left := by kernel_rfl
def m_w_szPose : FM := { ps := [.ro true tPose, .ro false (.int .i64)], res := .one false (.int .i64), run := fun x => some (t_w_szPose x.1 x.2.1) }
set_option maxRecDepth 4000 in
theorem ok_w_szPose : FmOK Try.prog 38 m_w_szPose := @FmOK.made Try.prog E_w_szPose ek_w_szPose 38 Try.f38 noL m_w_szPose Try.func38 (by kernel_rfl) (Loops.none (by kernel_rfl)) fun ds out _ hr => by obtain ⟨a, left, ⟨⟩⟩ := ds; exact (ev_w_szPose a left).trans ((q_w_szPose a left).trans hr)

def E_w_szInt64S : Tabs := (mkE tab [] [])
set_option maxRecDepth 4000 in
theorem ek_w_szInt64S : EnvOK Try.prog E_w_szInt64S := (mkE_ok tab_ok mixed AllF.nil AllX.nil)
theorem ev_w_szInt64S (a : (List Int)) (left : Int) : evalF E_w_szInt64S noL Try.f155 [.ro false (.slice (.int .i64)), .ro false (.int .i64)] (.one false (.int .i64)) (a, left, ()) = g_w_szInt64S a left := by kernel_rfl
def m_w_szInt64S : FM := { ps := [.ro false (.slice (.int .i64)), .ro false (.int .i64)], res := .one false (.int .i64), run := fun x => some (t_w_szInt64S x.1 x.2.1) }
set_option maxRecDepth 4000 in
theorem ok_w_szInt64S : FmOK Try.prog 155 m_w_szInt64S := @FmOK.made Try.prog E_w_szInt64S ek_w_szInt64S 155 Try.f155 noL m_w_szInt64S Try.func155 (by kernel_rfl) (Loops.none (by kernel_rfl)) fun ds out _ hr => by obtain ⟨a, left, ⟨⟩⟩ := ds; exact (ev_w_szInt64S a left).trans ((q_w_szInt64S a left).trans hr)

def E_w_szFloat32S : Tabs := (mkE tab [] [])
set_option maxRecDepth 4000 in
theorem ek_w_szFloat32S : EnvOK Try.prog E_w_szFloat32S := (mkE_ok tab_ok mixed AllF.nil AllX.nil)
theorem ev_w_szFloat32S (a : (List Nat)) (left : Int) : evalF E_w_szFloat32S noL Try.f73 [.ro false (.slice (.flt .f32)), .ro false (.int .i64)] (.one false (.int .i64)) (a, left, ()) = g_w_szFloat32S a left := by kernel_rfl
def m_w_szFloat32S : FM := { ps := [.ro false (.slice (.flt .f32)), .ro false (.int .i64)], res := .one false (.int .i64), run := fun x => some (t_w_szFloat32S x.1 x.2.1) }
set_option maxRecDepth 4000 in
theorem ok_w_szFloat32S : FmOK Try.prog 73 m_w_szFloat32S := @FmOK.made Try.prog E_w_szFloat32S ek_w_szFloat32S 73 Try.f73 noL m_w_szFloat32S Try.func73 (by kernel_rfl) (Loops.none (by kernel_rfl)) fun ds out _ hr => by obtain ⟨a, left, ⟨⟩⟩ := ds; exact (ev_w_szFloat32S a left).trans ((q_w_szFloat32S a left).trans hr)

def E_w_szSkinPoint : Tabs := (mkE tab [(155, m_w_szInt64S), (73, m_w_szFloat32S)] [])
set_option maxRecDepth 4000 in
theorem ek_w_szSkinPoint : EnvOK Try.prog E_w_szSkinPoint := (mkE_ok tab_ok mixed (AllF.cons ok_w_szInt64S (AllF.cons ok_w_szFloat32S AllF.nil)) AllX.nil)
theorem ev_w_szSkinPoint (a : dSkinPoint) (left : Int) : evalF E_w_szSkinPoint noL Try.f92 [.ro true tSkinPoint, .ro false (.int .i64)] (.one false (.int .i64)) (a, left, ()) = g_w_szSkinPoint a left := by kernel_rfl
def m_w_szSkinPoint : FM := { ps := [.ro true tSkinPoint, .ro false (.int .i64)], res := .one false (.int .i64), run := fun x => some (t_w_szSkinPoint x.1 x.2.1) }
set_option maxRecDepth 4000 in
theorem ok_w_szSkinPoint : FmOK Try.prog 92 m_w_szSkinPoint := @FmOK.made Try.prog E_w_szSkinPoint ek_w_szSkinPoint 92 Try.f92 noL m_w_szSkinPoint Try.func92 (by kernel_rfl) (Loops.none (by kernel_rfl)) fun ds out _ hr => by obtain ⟨a, left, ⟨⟩⟩ := ds; exact (ev_w_szSkinPoint a left).trans ((q_w_szSkinPoint a left).trans hr)

def E_w_szSkinPointS : Tabs := (mkE tab [(92, m_w_szSkinPoint)] [])
set_option maxRecDepth 4000 in
theorem ek_w_szSkinPointS : EnvOK Try.prog E_w_szSkinPointS := (mkE_ok tab_ok mixed (AllF.cons ok_w_szSkinPoint AllF.nil) AllX.nil)
def lm_L_w_szSkinPointS_1 : LM := { mat := [], head := { slots := [(0, .dat false (.slice tSkinPoint)), (1, .dat false (.int .i64)), (4, .dat false (.int .i64)), (5, .dat false (.int .i64))], blks := [] }, out := { slots := [(1, .dat false (.int .i64)), (4, .dat false (.int .i64))], blks := [] }, ex := 0, rets := true, run := iter L_w_szSkinPointS_1 fuel }
def ll_w_szSkinPointS : List (Nat × LP) := [(5, .lm lm_L_w_szSkinPointS_1)]
theorem rd_L_w_szSkinPointS_1 (rec' : ((List dSkinPoint) × Int × Int × Int × Unit) × (Unit) → Option (Bool × ((Int × Int × Unit) × (Unit)))) (a : (List dSkinPoint)) (left : Int) (t4 : Int) (i : Int) : round E_w_szSkinPointS (lookL ll_w_szSkinPointS) lm_L_w_szSkinPointS_1 27 (loopAt Try.f24 0) rec' ((a, left, t4, i, ()), (())) = L_w_szSkinPointS_1 rec' ((a, left, t4, i, ()), (())) := by kernel_rfl
theorem lo_w_szSkinPointS : Loops E_w_szSkinPointS (lookL ll_w_szSkinPointS) Try.f24 := Loops.list (by kernel_rfl) (by kernel_rfl) ⟨LoopOK.iter (step := L_w_szSkinPointS_1) (N := fun _ => fuel) (fun rec' x => by obtain ⟨⟨a, left, t4, i, ⟨⟩⟩, ⟨⟨⟩⟩⟩ := x; exact rd_L_w_szSkinPointS_1 rec' a left t4 i) fun _ => rfl, trivial⟩
theorem ev_w_szSkinPointS (a : (List dSkinPoint)) (left : Int) : evalF E_w_szSkinPointS (lookL ll_w_szSkinPointS) Try.f24 [.ro false (.slice tSkinPoint), .ro false (.int .i64)] (.one false (.int .i64)) (a, left, ()) = g_w_szSkinPointS a left := by kernel_rfl
def m_w_szSkinPointS : FM := { ps := [.ro false (.slice tSkinPoint), .ro false (.int .i64)], res := .one false (.int .i64), run := fun x => g_w_szSkinPointS x.1 x.2.1 }
set_option maxRecDepth 4000 in
theorem ok_w_szSkinPointS : FmOK Try.prog 24 m_w_szSkinPointS := @FmOK.made Try.prog E_w_szSkinPointS ek_w_szSkinPointS 24 Try.f24 (lookL ll_w_szSkinPointS) m_w_szSkinPointS Try.func24 (by kernel_rfl) lo_w_szSkinPointS fun ds out _ hr => by obtain ⟨a, left, ⟨⟩⟩ := ds; exact (ev_w_szSkinPointS a left).trans hr

def E_w_toVector : Tabs := (mkE tab [] [])
set_option maxRecDepth 4000 in
theorem ek_w_toVector : EnvOK Try.prog E_w_toVector := (mkE_ok tab_ok mixed AllF.nil AllX.nil)
theorem ev_w_toVector (a : dVec) : evalF E_w_toVector noL Try.f81 [.ro true tVec] (.one true tVec) (a, ()) = g_w_toVector a := by kernel_rfl
def m_w_toVector : FM := { ps := [.ro true tVec], res := .one true tVec, run := fun x => some (t_w_toVector x.1) }
set_option maxRecDepth 4000 in
theorem ok_w_toVector : FmOK Try.prog 81 m_w_toVector := @FmOK.made Try.prog E_w_toVector ek_w_toVector 81 Try.f81 noL m_w_toVector Try.func81 (by kernel_rfl) (Loops.none (by kernel_rfl)) fun ds out _ hr => by obtain ⟨a, ⟨⟩⟩ := ds; exact (ev_w_toVector a).trans ((q_w_toVector a).trans hr)

def E_w_toBone : Tabs := (mkE tab [(81, m_w_toVector)] [])
set_option maxRecDepth 4000 in
theorem ek_w_toBone : EnvOK Try.prog E_w_toBone := (mkE_ok tab_ok mixed (AllF.cons ok_w_toVector AllF.nil) AllX.nil)
theorem ev_w_toBone (a : dRootKey) : evalF E_w_toBone noL Try.f157 [.ro true tRootKey] (.one true tRootKey) (a, ()) = g_w_toBone a := by kernel_rfl
def m_w_toBone : FM := { ps := [.ro true tRootKey], res := .one true tRootKey, run := fun x => some (t_w_toBone x.1) }
set_option maxRecDepth 4000 in
theorem ok_w_toBone : FmOK Try.prog 157 m_w_toBone := @FmOK.made Try.prog E_w_toBone ek_w_toBone 157 Try.f157 noL m_w_toBone Try.func157 (by kernel_rfl) (Loops.none (by kernel_rfl)) fun ds out _ hr => by obtain ⟨a, ⟨⟩⟩ := ds; exact (ev_w_toBone a).trans ((q_w_toBone a).trans hr)

def E_w_toBoneS : Tabs := (mkE tab [(157, m_w_toBone)] [])
set_option maxRecDepth 4000 in
theorem ek_w_toBoneS : EnvOK Try.prog E_w_toBoneS := (mkE_ok tab_ok mixed (AllF.cons ok_w_toBone AllF.nil) AllX.nil)
def lm_L_w_toBoneS_1 : LM := { mat := [], head := { slots := [(0, .dat false (.slice tRootKey)), (3, .cst (.sl (.row 0))), (4, .dat false (.int .i64))], blks := [.row false tRootKey] }, out := { slots := [(3, .cst (.sl (.row 0)))], blks := [.row false tRootKey] }, ex := 0, rets := false, run := iter L_w_toBoneS_1 fuel }
def ll_w_toBoneS : List (Nat × LP) := [(3, .lm lm_L_w_toBoneS_1)]
theorem rd_L_w_toBoneS_1 (rec' : ((List dRootKey) × Int × Unit) × ((List dRootKey) × Unit) → Option ((Unit) × ((List dRootKey) × Unit))) (a : (List dRootKey)) (i : Int) (r0 : (List dRootKey)) : round E_w_toBoneS (lookL ll_w_toBoneS) lm_L_w_toBoneS_1 23 (loopAt Try.f95 0) rec' ((a, i, ()), (r0, ())) = L_w_toBoneS_1 rec' ((a, i, ()), (r0, ())) := by kernel_rfl
theorem lo_w_toBoneS : Loops E_w_toBoneS (lookL ll_w_toBoneS) Try.f95 := Loops.list (by kernel_rfl) (by kernel_rfl) ⟨LoopOK.iter (step := L_w_toBoneS_1) (N := fun _ => fuel) (fun rec' x => by obtain ⟨⟨a, i, ⟨⟩⟩, ⟨r0, ⟨⟩⟩⟩ := x; exact rd_L_w_toBoneS_1 rec' a i r0) fun _ => rfl, trivial⟩
theorem ev_w_toBoneS (a : (List dRootKey)) : evalF E_w_toBoneS (lookL ll_w_toBoneS) Try.f95 [.ro false (.slice tRootKey)] (.one false (.slice tRootKey)) (a, ()) = g_w_toBoneS a := by kernel_rfl
def m_w_toBoneS : FM := { ps := [.ro false (.slice tRootKey)], res := .one false (.slice tRootKey), run := fun x => g_w_toBoneS x.1 }
set_option maxRecDepth 4000 in
theorem ok_w_toBoneS : FmOK Try.prog 95 m_w_toBoneS := @FmOK.made Try.prog E_w_toBoneS ek_w_toBoneS 95 Try.f95 (lookL ll_w_toBoneS) m_w_toBoneS Try.func95 (by kernel_rfl) lo_w_toBoneS fun ds out _ hr => by obtain ⟨a, ⟨⟩⟩ := ds; exact (ev_w_toBoneS a).trans hr

def E_w_toSkeleton : Tabs := (mkE tab [(95, m_w_toBoneS)] [])
set_option maxRecDepth 4000 in
theorem ek_w_toSkeleton : EnvOK Try.prog E_w_toSkeleton := (mkE_ok tab_ok mixed (AllF.cons ok_w_toBoneS AllF.nil) AllX.nil)
theorem ev_w_toSkeleton (a : dSkel) : evalF E_w_toSkeleton noL Try.f26 [.ro true tSkel] (.one true tSkel) (a, ()) = g_w_toSkeleton a := by kernel_rfl
def m_w_toSkeleton : FM := { ps := [.ro true tSkel], res := .one true tSkel, run := fun x => g_w_toSkeleton x.1 }
set_option maxRecDepth 4000 in
theorem ok_w_toSkeleton : FmOK Try.prog 26 m_w_toSkeleton := @FmOK.made Try.prog E_w_toSkeleton ek_w_toSkeleton 26 Try.f26 noL m_w_toSkeleton Try.func26 (by kernel_rfl) (Loops.none (by kernel_rfl)) fun ds out _ hr => by obtain ⟨a, ⟨⟩⟩ := ds; exact (ev_w_toSkeleton a).trans hr

def E_w_toTurn : Tabs := (mkE tab [] [])
set_option maxRecDepth 4000 in
theorem ek_w_toTurn : EnvOK Try.prog E_w_toTurn := (mkE_ok tab_ok mixed AllF.nil AllX.nil)
theorem ev_w_toTurn (a : dTurn) : evalF E_w_toTurn noL Try.f166 [.ro true tTurn] (.one true tTurn) (a, ()) = g_w_toTurn a := by kernel_rfl
def m_w_toTurn : FM := { ps := [.ro true tTurn], res := .one true tTurn, run := fun x => some (t_w_toTurn x.1) }
set_option maxRecDepth 4000 in
theorem ok_w_toTurn : FmOK Try.prog 166 m_w_toTurn := @FmOK.made Try.prog E_w_toTurn ek_w_toTurn 166 Try.f166 noL m_w_toTurn Try.func166 (by kernel_rfl) (Loops.none (by kernel_rfl)) fun ds out _ hr => by obtain ⟨a, ⟨⟩⟩ := ds; exact (ev_w_toTurn a).trans ((q_w_toTurn a).trans hr)

def E_w_toTurnS : Tabs := (mkE tab [(166, m_w_toTurn)] [])
set_option maxRecDepth 4000 in
theorem ek_w_toTurnS : EnvOK Try.prog E_w_toTurnS := (mkE_ok tab_ok mixed (AllF.cons ok_w_toTurn AllF.nil) AllX.nil)
def lm_L_w_toTurnS_1 : LM := { mat := [], head := { slots := [(0, .dat false (.slice tTurn)), (3, .cst (.sl (.row 0))), (4, .dat false (.int .i64))], blks := [.row false tTurn] }, out := { slots := [(3, .cst (.sl (.row 0)))], blks := [.row false tTurn] }, ex := 0, rets := false, run := iter L_w_toTurnS_1 fuel }
def ll_w_toTurnS : List (Nat × LP) := [(3, .lm lm_L_w_toTurnS_1)]
theorem rd_L_w_toTurnS_1 (rec' : ((List dTurn) × Int × Unit) × ((List dTurn) × Unit) → Option ((Unit) × ((List dTurn) × Unit))) (a : (List dTurn)) (i : Int) (r0 : (List dTurn)) : round E_w_toTurnS (lookL ll_w_toTurnS) lm_L_w_toTurnS_1 23 (loopAt Try.f120 0) rec' ((a, i, ()), (r0, ())) = L_w_toTurnS_1 rec' ((a, i, ()), (r0, ())) := by kernel_rfl
theorem lo_w_toTurnS : Loops E_w_toTurnS (lookL ll_w_toTurnS) Try.f120 := Loops.list (by kernel_rfl) (by kernel_rfl) ⟨LoopOK.iter (step := L_w_toTurnS_1) (N := fun _ => fuel) (fun rec' x => by obtain ⟨⟨a, i, ⟨⟩⟩, ⟨r0, ⟨⟩⟩⟩ := x; exact rd_L_w_toTurnS_1 rec' a i r0) fun _ => rfl, trivial⟩
theorem ev_w_toTurnS (a : (List dTurn)) : evalF E_w_toTurnS (lookL ll_w_toTurnS) Try.f120 [.ro false (.slice tTurn)] (.one false (.slice tTurn)) (a, ()) = g_w_toTurnS a := by kernel_rfl
def m_w_toTurnS : FM := { ps := [.ro false (.slice tTurn)], res := .one false (.slice tTurn), run := fun x => g_w_toTurnS x.1 }
set_option maxRecDepth 4000 in
theorem ok_w_toTurnS : FmOK Try.prog 120 m_w_toTurnS := @FmOK.made Try.prog E_w_toTurnS ek_w_toTurnS 120 Try.f120 (lookL ll_w_toTurnS) m_w_toTurnS Try.func120 (by kernel_rfl) lo_w_toTurnS fun ds out _ hr => by obtain ⟨a, ⟨⟩⟩ := ds; exact (ev_w_toTurnS a).trans hr

def E_w_toPose : Tabs := (mkE tab [(81, m_w_toVector), (120, m_w_toTurnS)] [])
set_option maxRecDepth 4000 in
theorem ek_w_toPose : EnvOK Try.prog E_w_toPose := (mkE_ok tab_ok mixed (AllF.cons ok_w_toVector (AllF.cons ok_w_toTurnS AllF.nil)) AllX.nil)
theorem ev_w_toPose (a : dPose) : evalF E_w_toPose noL Try.f40 [.ro true tPose] (.one true tPose) (a, ()) = g_w_toPose a := by kernel_rfl
def m_w_toPose : FM := { ps := [.ro true tPose], res := .one true tPose, run := fun x => g_w_toPose x.1 }
set_option maxRecDepth 4000 in
theorem ok_w_toPose : FmOK Try.prog 40 m_w_toPose := @FmOK.made Try.prog E_w_toPose ek_w_toPose 40 Try.f40 noL m_w_toPose Try.func40 (by kernel_rfl) (Loops.none (by kernel_rfl)) fun ds out _ hr => by obtain ⟨a, ⟨⟩⟩ := ds; exact (ev_w_toPose a).trans hr

def E_w_toInt64S : Tabs := (mkE tab [] [])
set_option maxRecDepth 4000 in
theorem ek_w_toInt64S : EnvOK Try.prog E_w_toInt64S := (mkE_ok tab_ok mixed AllF.nil AllX.nil)
def lm_L_w_toInt64S_1 : LM := { mat := [], head := { slots := [(0, .dat false (.slice (.int .i64))), (3, .cst (.sl (.row 0))), (4, .dat false (.int .i64))], blks := [.row false (.int .i64)] }, out := { slots := [(3, .cst (.sl (.row 0)))], blks := [.row false (.int .i64)] }, ex := 0, rets := false, run := iter L_w_toInt64S_1 fuel }
def ll_w_toInt64S : List (Nat × LP) := [(3, .lm lm_L_w_toInt64S_1)]
theorem rd_L_w_toInt64S_1 (rec' : ((List Int) × Int × Unit) × ((List Int) × Unit) → Option ((Unit) × ((List Int) × Unit))) (a : (List Int)) (i : Int) (r0 : (List Int)) : round E_w_toInt64S (lookL ll_w_toInt64S) lm_L_w_toInt64S_1 22 (loopAt Try.f158 0) rec' ((a, i, ()), (r0, ())) = L_w_toInt64S_1 rec' ((a, i, ()), (r0, ())) := by kernel_rfl
theorem lo_w_toInt64S : Loops E_w_toInt64S (lookL ll_w_toInt64S) Try.f158 := Loops.list (by kernel_rfl) (by kernel_rfl) ⟨LoopOK.iter (step := L_w_toInt64S_1) (N := fun _ => fuel) (fun rec' x => by obtain ⟨⟨a, i, ⟨⟩⟩, ⟨r0, ⟨⟩⟩⟩ := x; exact rd_L_w_toInt64S_1 rec' a i r0) fun _ => rfl, trivial⟩
theorem ev_w_toInt64S (a : (List Int)) : evalF E_w_toInt64S (lookL ll_w_toInt64S) Try.f158 [.ro false (.slice (.int .i64))] (.one false (.slice (.int .i64))) (a, ()) = g_w_toInt64S a := by kernel_rfl
def m_w_toInt64S : FM := { ps := [.ro false (.slice (.int .i64))], res := .one false (.slice (.int .i64)), run := fun x => g_w_toInt64S x.1 }
set_option maxRecDepth 4000 in
theorem ok_w_toInt64S : FmOK Try.prog 158 m_w_toInt64S := @FmOK.made Try.prog E_w_toInt64S ek_w_toInt64S 158 Try.f158 (lookL ll_w_toInt64S) m_w_toInt64S Try.func158 (by kernel_rfl) lo_w_toInt64S fun ds out _ hr => by obtain ⟨a, ⟨⟩⟩ := ds; exact (ev_w_toInt64S a).trans hr

def E_w_toFloat32S : Tabs := (mkE tab [] [])
set_option maxRecDepth 4000 in
theorem ek_w_toFloat32S : EnvOK Try.prog E_w_toFloat32S := (mkE_ok tab_ok mixed AllF.nil AllX.nil)
def lm_L_w_toFloat32S_1 : LM := { mat := [], head := { slots := [(0, .dat false (.slice (.flt .f32))), (3, .cst (.sl (.row 0))), (4, .dat false (.int .i64))], blks := [.row false (.flt .f32)] }, out := { slots := [(3, .cst (.sl (.row 0)))], blks := [.row false (.flt .f32)] }, ex := 0, rets := false, run := iter L_w_toFloat32S_1 fuel }
def ll_w_toFloat32S : List (Nat × LP) := [(3, .lm lm_L_w_toFloat32S_1)]
theorem rd_L_w_toFloat32S_1 (rec' : ((List Nat) × Int × Unit) × ((List Nat) × Unit) → Option ((Unit) × ((List Nat) × Unit))) (a : (List Nat)) (i : Int) (r0 : (List Nat)) : round E_w_toFloat32S (lookL ll_w_toFloat32S) lm_L_w_toFloat32S_1 22 (loopAt Try.f80 0) rec' ((a, i, ()), (r0, ())) = L_w_toFloat32S_1 rec' ((a, i, ()), (r0, ())) := by kernel_rfl
theorem lo_w_toFloat32S : Loops E_w_toFloat32S (lookL ll_w_toFloat32S) Try.f80 := Loops.list (by kernel_rfl) (by kernel_rfl) ⟨LoopOK.iter (step := L_w_toFloat32S_1) (N := fun _ => fuel) (fun rec' x => by obtain ⟨⟨a, i, ⟨⟩⟩, ⟨r0, ⟨⟩⟩⟩ := x; exact rd_L_w_toFloat32S_1 rec' a i r0) fun _ => rfl, trivial⟩
theorem ev_w_toFloat32S (a : (List Nat)) : evalF E_w_toFloat32S (lookL ll_w_toFloat32S) Try.f80 [.ro false (.slice (.flt .f32))] (.one false (.slice (.flt .f32))) (a, ()) = g_w_toFloat32S a := by kernel_rfl
def m_w_toFloat32S : FM := { ps := [.ro false (.slice (.flt .f32))], res := .one false (.slice (.flt .f32)), run := fun x => g_w_toFloat32S x.1 }
set_option maxRecDepth 4000 in
theorem ok_w_toFloat32S : FmOK Try.prog 80 m_w_toFloat32S := @FmOK.made Try.prog E_w_toFloat32S ek_w_toFloat32S 80 Try.f80 (lookL ll_w_toFloat32S) m_w_toFloat32S Try.func80 (by kernel_rfl) lo_w_toFloat32S fun ds out _ hr => by obtain ⟨a, ⟨⟩⟩ := ds; exact (ev_w_toFloat32S a).trans hr

def E_w_toSkinPoint : Tabs := (mkE tab [(81, m_w_toVector), (158, m_w_toInt64S), (80, m_w_toFloat32S)] [])
set_option maxRecDepth 4000 in
theorem ek_w_toSkinPoint : EnvOK Try.prog E_w_toSkinPoint := (mkE_ok tab_ok mixed (AllF.cons ok_w_toVector (AllF.cons ok_w_toInt64S (AllF.cons ok_w_toFloat32S AllF.nil))) AllX.nil)
theorem ev_w_toSkinPoint (a : dSkinPoint) : evalF E_w_toSkinPoint noL Try.f96 [.ro true tSkinPoint] (.one true tSkinPoint) (a, ()) = g_w_toSkinPoint a := by kernel_rfl
def m_w_toSkinPoint : FM := { ps := [.ro true tSkinPoint], res := .one true tSkinPoint, run := fun x => g_w_toSkinPoint x.1 }
set_option maxRecDepth 4000 in
theorem ok_w_toSkinPoint : FmOK Try.prog 96 m_w_toSkinPoint := @FmOK.made Try.prog E_w_toSkinPoint ek_w_toSkinPoint 96 Try.f96 noL m_w_toSkinPoint Try.func96 (by kernel_rfl) (Loops.none (by kernel_rfl)) fun ds out _ hr => by obtain ⟨a, ⟨⟩⟩ := ds; exact (ev_w_toSkinPoint a).trans hr

def E_w_toSkinPointS : Tabs := (mkE tab [(96, m_w_toSkinPoint)] [])
set_option maxRecDepth 4000 in
theorem ek_w_toSkinPointS : EnvOK Try.prog E_w_toSkinPointS := (mkE_ok tab_ok mixed (AllF.cons ok_w_toSkinPoint AllF.nil) AllX.nil)
def lm_L_w_toSkinPointS_1 : LM := { mat := [], head := { slots := [(0, .dat false (.slice tSkinPoint)), (3, .cst (.sl (.row 0))), (4, .dat false (.int .i64))], blks := [.row false tSkinPoint] }, out := { slots := [(3, .cst (.sl (.row 0)))], blks := [.row false tSkinPoint] }, ex := 0, rets := false, run := iter L_w_toSkinPointS_1 fuel }
def ll_w_toSkinPointS : List (Nat × LP) := [(3, .lm lm_L_w_toSkinPointS_1)]
theorem rd_L_w_toSkinPointS_1 (rec' : ((List dSkinPoint) × Int × Unit) × ((List dSkinPoint) × Unit) → Option ((Unit) × ((List dSkinPoint) × Unit))) (a : (List dSkinPoint)) (i : Int) (r0 : (List dSkinPoint)) : round E_w_toSkinPointS (lookL ll_w_toSkinPointS) lm_L_w_toSkinPointS_1 23 (loopAt Try.f27 0) rec' ((a, i, ()), (r0, ())) = L_w_toSkinPointS_1 rec' ((a, i, ()), (r0, ())) := by kernel_rfl
theorem lo_w_toSkinPointS : Loops E_w_toSkinPointS (lookL ll_w_toSkinPointS) Try.f27 := Loops.list (by kernel_rfl) (by kernel_rfl) ⟨LoopOK.iter (step := L_w_toSkinPointS_1) (N := fun _ => fuel) (fun rec' x => by obtain ⟨⟨a, i, ⟨⟩⟩, ⟨r0, ⟨⟩⟩⟩ := x; exact rd_L_w_toSkinPointS_1 rec' a i r0) fun _ => rfl, trivial⟩
theorem ev_w_toSkinPointS (a : (List dSkinPoint)) : evalF E_w_toSkinPointS (lookL ll_w_toSkinPointS) Try.f27 [.ro false (.slice tSkinPoint)] (.one false (.slice tSkinPoint)) (a, ()) = g_w_toSkinPointS a := by kernel_rfl
def m_w_toSkinPointS : FM := { ps := [.ro false (.slice tSkinPoint)], res := .one false (.slice tSkinPoint), run := fun x => g_w_toSkinPointS x.1 }
set_option maxRecDepth 4000 in
theorem ok_w_toSkinPointS : FmOK Try.prog 27 m_w_toSkinPointS := @FmOK.made Try.prog E_w_toSkinPointS ek_w_toSkinPointS 27 Try.f27 (lookL ll_w_toSkinPointS) m_w_toSkinPointS Try.func27 (by kernel_rfl) lo_w_toSkinPointS fun ds out _ hr => by obtain ⟨a, ⟨⟩⟩ := ds; exact (ev_w_toSkinPointS a).trans hr

def E_s_l00In : Tabs := (mkE tab [] [])
set_option maxRecDepth 4000 in
theorem ek_s_l00In : EnvOK Try.prog E_s_l00In := (mkE_ok tab_ok mixed AllF.nil AllX.nil)
theorem ev_s_l00In (n : Int) (low : Int) (high : Int) : evalF E_s_l00In noL Try.f151 [.ro false (.int .i64), .ro false (.int .i64), .ro false (.int .i64)] (.one false .bool) (n, low, high, ()) = g_s_l00In n low high := by kernel_rfl
def m_s_l00In : FM := { ps := [.ro false (.int .i64), .ro false (.int .i64), .ro false (.int .i64)], res := .one false .bool, run := fun x => some (t_s_l00In x.1 x.2.1 x.2.2.1) }
set_option maxRecDepth 4000 in
theorem ok_s_l00In : FmOK Try.prog 151 m_s_l00In := @FmOK.made Try.prog E_s_l00In ek_s_l00In 151 Try.f151 noL m_s_l00In Try.func151 (by kernel_rfl) (Loops.none (by kernel_rfl)) fun ds out _ hr => by obtain ⟨n, low, high, ⟨⟩⟩ := ds; exact (ev_s_l00In n low high).trans ((q_s_l00In n low high).trans hr)

def E_s_l03Is : Tabs := (mkE tab [(151, m_s_l00In)] [])
set_option maxRecDepth 4000 in
theorem ek_s_l03Is : EnvOK Try.prog E_s_l03Is := (mkE_ok tab_ok mixed (AllF.cons ok_s_l00In AllF.nil) AllX.nil)
def lm_L_s_l03Is_1 : LM := { mat := [], head := { slots := [(0, .dat false (.ref tSkel)), (2, .dat false .bool), (3, .dat false (.int .i64)), (4, .dat false (.int .i64))], blks := [] }, out := { slots := [(2, .dat false .bool)], blks := [] }, ex := 0, rets := true, run := iter L_s_l03Is_1 fuel }
def ll_s_l03Is : List (Nat × LP) := [(5, .lm lm_L_s_l03Is_1)]
theorem rd_L_s_l03Is_1 (rec' : (dSkel × Bool × Int × Int × Unit) × (Unit) → Option (Bool × ((Bool × Unit) × (Unit)))) (k : dSkel) (t2 : Bool) (n : Int) (i : Int) : round E_s_l03Is (lookL ll_s_l03Is) lm_L_s_l03Is_1 40 (loopAt Try.f93 0) rec' ((k, t2, n, i, ()), (())) = L_s_l03Is_1 rec' ((k, t2, n, i, ()), (())) := by kernel_rfl
theorem lo_s_l03Is : Loops E_s_l03Is (lookL ll_s_l03Is) Try.f93 := Loops.list (by kernel_rfl) (by kernel_rfl) ⟨LoopOK.iter (step := L_s_l03Is_1) (N := fun _ => fuel) (fun rec' x => by obtain ⟨⟨k, t2, n, i, ⟨⟩⟩, ⟨⟨⟩⟩⟩ := x; exact rd_L_s_l03Is_1 rec' k t2 n i) fun _ => rfl, trivial⟩
theorem ev_s_l03Is (k : dSkel) : evalF E_s_l03Is (lookL ll_s_l03Is) Try.f93 [.rptr tSkel] (.one false .bool) (k, ()) = g_s_l03Is k := by kernel_rfl
def m_s_l03Is : FM := { ps := [.rptr tSkel], res := .one false .bool, run := fun x => g_s_l03Is x.1 }
set_option maxRecDepth 4000 in
theorem ok_s_l03Is : FmOK Try.prog 93 m_s_l03Is := @FmOK.made Try.prog E_s_l03Is ek_s_l03Is 93 Try.f93 (lookL ll_s_l03Is) m_s_l03Is Try.func93 (by kernel_rfl) lo_s_l03Is fun ds out _ hr => by obtain ⟨k, ⟨⟩⟩ := ds; exact (ev_s_l03Is k).trans hr

def E_s_l03Pose : Tabs := (mkE tab [(93, m_s_l03Is)] [])
set_option maxRecDepth 4000 in
theorem ek_s_l03Pose : EnvOK Try.prog E_s_l03Pose := (mkE_ok tab_ok mixed (AllF.cons ok_s_l03Is AllF.nil) AllX.nil)
theorem ev_s_l03Pose (k : dSkel) (p : dPose) : evalF E_s_l03Pose noL Try.f118 [.rptr tSkel, .rptr tPose] (.one false .bool) (k, p, ()) = g_s_l03Pose k p := by kernel_rfl
def m_s_l03Pose : FM := { ps := [.rptr tSkel, .rptr tPose], res := .one false .bool, run := fun x => g_s_l03Pose x.1 x.2.1 }
set_option maxRecDepth 4000 in
theorem ok_s_l03Pose : FmOK Try.prog 118 m_s_l03Pose := @FmOK.made Try.prog E_s_l03Pose ek_s_l03Pose 118 Try.f118 noL m_s_l03Pose Try.func118 (by kernel_rfl) (Loops.none (by kernel_rfl)) fun ds out _ hr => by obtain ⟨k, p, ⟨⟩⟩ := ds; exact (ev_s_l03Pose k p).trans hr

def E_s_l09Point : Tabs := (mkE tab [] [])
set_option maxRecDepth 4000 in
theorem ek_s_l09Point : EnvOK Try.prog E_s_l09Point := (mkE_ok tab_ok mixed AllF.nil AllX.nil)
theorem ev_s_l09Point (xx : dSkinPoint) : evalF E_s_l09Point noL Try.f101 [.rptr tSkinPoint] (.one false .bool) (xx, ()) = g_s_l09Point xx := by kernel_rfl
def m_s_l09Point : FM := { ps := [.rptr tSkinPoint], res := .one false .bool, run := fun x => some (t_s_l09Point x.1) }
set_option maxRecDepth 4000 in
theorem ok_s_l09Point : FmOK Try.prog 101 m_s_l09Point := @FmOK.made Try.prog E_s_l09Point ek_s_l09Point 101 Try.f101 noL m_s_l09Point Try.func101 (by kernel_rfl) (Loops.none (by kernel_rfl)) fun ds out _ hr => by obtain ⟨xx, ⟨⟩⟩ := ds; exact (ev_s_l09Point xx).trans ((q_s_l09Point xx).trans hr)

def E_s_l00Rises : Tabs := (mkE tab [(151, m_s_l00In)] [])
set_option maxRecDepth 4000 in
theorem ek_s_l00Rises : EnvOK Try.prog E_s_l00Rises := (mkE_ok tab_ok mixed (AllF.cons ok_s_l00In AllF.nil) AllX.nil)
def lm_L_s_l00Rises_1 : LM := { mat := [], head := { slots := [(0, .dat false (.slice (.int .i64))), (1, .dat false (.int .i64)), (2, .dat false (.int .i64)), (6, .dat false .bool), (7, .dat false (.int .i64))], blks := [] }, out := { slots := [(6, .dat false .bool)], blks := [] }, ex := 0, rets := true, run := iter L_s_l00Rises_1 fuel }
def ll_s_l00Rises : List (Nat × LP) := [(2, .lm lm_L_s_l00Rises_1)]
theorem rd_L_s_l00Rises_1 (rec' : ((List Int) × Int × Int × Bool × Int × Unit) × (Unit) → Option (Bool × ((Bool × Unit) × (Unit)))) (list : (List Int)) (low : Int) (high : Int) (t6 : Bool) (i : Int) : round E_s_l00Rises (lookL ll_s_l00Rises) lm_L_s_l00Rises_1 38 (loopAt Try.f156 0) rec' ((list, low, high, t6, i, ()), (())) = L_s_l00Rises_1 rec' ((list, low, high, t6, i, ()), (())) := by kernel_rfl
theorem lo_s_l00Rises : Loops E_s_l00Rises (lookL ll_s_l00Rises) Try.f156 := Loops.list (by kernel_rfl) (by kernel_rfl) ⟨LoopOK.iter (step := L_s_l00Rises_1) (N := fun _ => fuel) (fun rec' x => by obtain ⟨⟨list, low, high, t6, i, ⟨⟩⟩, ⟨⟨⟩⟩⟩ := x; exact rd_L_s_l00Rises_1 rec' list low high t6 i) fun _ => rfl, trivial⟩
theorem ev_s_l00Rises (list : (List Int)) (low : Int) (high : Int) : evalF E_s_l00Rises (lookL ll_s_l00Rises) Try.f156 [.ro false (.slice (.int .i64)), .ro false (.int .i64), .ro false (.int .i64)] (.one false .bool) (list, low, high, ()) = g_s_l00Rises list low high := by kernel_rfl
def m_s_l00Rises : FM := { ps := [.ro false (.slice (.int .i64)), .ro false (.int .i64), .ro false (.int .i64)], res := .one false .bool, run := fun x => g_s_l00Rises x.1 x.2.1 x.2.2.1 }
set_option maxRecDepth 4000 in
theorem ok_s_l00Rises : FmOK Try.prog 156 m_s_l00Rises := @FmOK.made Try.prog E_s_l00Rises ek_s_l00Rises 156 Try.f156 (lookL ll_s_l00Rises) m_s_l00Rises Try.func156 (by kernel_rfl) lo_s_l00Rises fun ds out _ hr => by obtain ⟨list, low, high, ⟨⟩⟩ := ds; exact (ev_s_l00Rises list low high).trans hr

def E_s_l09Skin : Tabs := (mkE tab [(101, m_s_l09Point), (156, m_s_l00Rises)] [])
set_option maxRecDepth 4000 in
theorem ek_s_l09Skin : EnvOK Try.prog E_s_l09Skin := (mkE_ok tab_ok mixed (AllF.cons ok_s_l09Point (AllF.cons ok_s_l00Rises AllF.nil)) AllX.nil)
def lm_L_s_l09Skin_1 : LM := { mat := [], head := { slots := [(0, .dat false (.ref tSkel)), (1, .dat false (.slice tSkinPoint)), (4, .dat false .bool), (7, .dat false (.int .i64)), (8, .dat false (.int .i64))], blks := [] }, out := { slots := [(1, .dat false (.slice tSkinPoint)), (4, .dat false .bool)], blks := [] }, ex := 0, rets := true, run := iter L_s_l09Skin_1 fuel }
def ll_s_l09Skin : List (Nat × LP) := [(2, .lm lm_L_s_l09Skin_1)]
theorem rd_L_s_l09Skin_1 (rec' : (dSkel × (List dSkinPoint) × Bool × Int × Int × Unit) × (Unit) → Option (Bool × (((List dSkinPoint) × Bool × Unit) × (Unit)))) (k : dSkel) (points : (List dSkinPoint)) (t4 : Bool) (t7 : Int) (t8 : Int) : round E_s_l09Skin (lookL ll_s_l09Skin) lm_L_s_l09Skin_1 35 (loopAt Try.f94 0) rec' ((k, points, t4, t7, t8, ()), (())) = L_s_l09Skin_1 rec' ((k, points, t4, t7, t8, ()), (())) := by kernel_rfl
theorem lo_s_l09Skin : Loops E_s_l09Skin (lookL ll_s_l09Skin) Try.f94 := Loops.list (by kernel_rfl) (by kernel_rfl) ⟨LoopOK.iter (step := L_s_l09Skin_1) (N := fun _ => fuel) (fun rec' x => by obtain ⟨⟨k, points, t4, t7, t8, ⟨⟩⟩, ⟨⟨⟩⟩⟩ := x; exact rd_L_s_l09Skin_1 rec' k points t4 t7 t8) fun _ => rfl, trivial⟩
theorem ev_s_l09Skin (k : dSkel) (points : (List dSkinPoint)) : evalF E_s_l09Skin (lookL ll_s_l09Skin) Try.f94 [.rptr tSkel, .ro false (.slice tSkinPoint)] (.one false .bool) (k, points, ()) = g_s_l09Skin k points := by kernel_rfl
def m_s_l09Skin : FM := { ps := [.rptr tSkel, .ro false (.slice tSkinPoint)], res := .one false .bool, run := fun x => g_s_l09Skin x.1 x.2.1 }
set_option maxRecDepth 4000 in
theorem ok_s_l09Skin : FmOK Try.prog 94 m_s_l09Skin := @FmOK.made Try.prog E_s_l09Skin ek_s_l09Skin 94 Try.f94 (lookL ll_s_l09Skin) m_s_l09Skin Try.func94 (by kernel_rfl) lo_s_l09Skin fun ds out _ hr => by obtain ⟨k, points, ⟨⟩⟩ := ds; exact (ev_s_l09Skin k points).trans hr

def E_s_l02Mul : Tabs := (mkE tab [] [])
set_option maxRecDepth 4000 in
theorem ek_s_l02Mul : EnvOK Try.prog E_s_l02Mul := (mkE_ok tab_ok mixed AllF.nil AllX.nil)
theorem ev_s_l02Mul (a : dTurn) (b : dTurn) : evalF E_s_l02Mul noL Try.f164 [.ro true tTurn, .ro true tTurn] (.one true tTurn) (a, b, ()) = g_s_l02Mul a b := by kernel_rfl
def m_s_l02Mul : FM := { ps := [.ro true tTurn, .ro true tTurn], res := .one true tTurn, run := fun x => some (t_s_l02Mul x.1 x.2.1) }
set_option maxRecDepth 4000 in
theorem ok_s_l02Mul : FmOK Try.prog 164 m_s_l02Mul := @FmOK.made Try.prog E_s_l02Mul ek_s_l02Mul 164 Try.f164 noL m_s_l02Mul Try.func164 (by kernel_rfl) (Loops.none (by kernel_rfl)) fun ds out _ hr => by obtain ⟨a, b, ⟨⟩⟩ := ds; exact (ev_s_l02Mul a b).trans ((q_s_l02Mul a b).trans hr)

def E_s_l02Axis : Tabs := (mkE tab [] [])
set_option maxRecDepth 4000 in
theorem ek_s_l02Axis : EnvOK Try.prog E_s_l02Axis := (mkE_ok tab_ok mixed AllF.nil AllX.nil)
theorem ev_s_l02Axis (t : dTurn) : evalF E_s_l02Axis noL Try.f173 [.ro true tTurn] (.one true tVec) (t, ()) = g_s_l02Axis t := by kernel_rfl
def m_s_l02Axis : FM := { ps := [.ro true tTurn], res := .one true tVec, run := fun x => some (t_s_l02Axis x.1) }
set_option maxRecDepth 4000 in
theorem ok_s_l02Axis : FmOK Try.prog 173 m_s_l02Axis := @FmOK.made Try.prog E_s_l02Axis ek_s_l02Axis 173 Try.f173 noL m_s_l02Axis Try.func173 (by kernel_rfl) (Loops.none (by kernel_rfl)) fun ds out _ hr => by obtain ⟨t, ⟨⟩⟩ := ds; exact (ev_s_l02Axis t).trans ((q_s_l02Axis t).trans hr)

def E_s_l01Cross : Tabs := (mkE tab [] [])
set_option maxRecDepth 4000 in
theorem ek_s_l01Cross : EnvOK Try.prog E_s_l01Cross := (mkE_ok tab_ok mixed AllF.nil AllX.nil)
theorem ev_s_l01Cross (a : dVec) (b : dVec) : evalF E_s_l01Cross noL Try.f174 [.ro true tVec, .ro true tVec] (.one true tVec) (a, b, ()) = g_s_l01Cross a b := by kernel_rfl
def m_s_l01Cross : FM := { ps := [.ro true tVec, .ro true tVec], res := .one true tVec, run := fun x => some (t_s_l01Cross x.1 x.2.1) }
set_option maxRecDepth 4000 in
theorem ok_s_l01Cross : FmOK Try.prog 174 m_s_l01Cross := @FmOK.made Try.prog E_s_l01Cross ek_s_l01Cross 174 Try.f174 noL m_s_l01Cross Try.func174 (by kernel_rfl) (Loops.none (by kernel_rfl)) fun ds out _ hr => by obtain ⟨a, b, ⟨⟩⟩ := ds; exact (ev_s_l01Cross a b).trans ((q_s_l01Cross a b).trans hr)

def E_s_l01Scale : Tabs := (mkE tab [] [])
set_option maxRecDepth 4000 in
theorem ek_s_l01Scale : EnvOK Try.prog E_s_l01Scale := (mkE_ok tab_ok mixed AllF.nil AllX.nil)
theorem ev_s_l01Scale (v : dVec) (byx : Nat) : evalF E_s_l01Scale noL Try.f132 [.ro true tVec, .ro false (.flt .f32)] (.one true tVec) (v, byx, ()) = g_s_l01Scale v byx := by kernel_rfl
def m_s_l01Scale : FM := { ps := [.ro true tVec, .ro false (.flt .f32)], res := .one true tVec, run := fun x => some (t_s_l01Scale x.1 x.2.1) }
set_option maxRecDepth 4000 in
theorem ok_s_l01Scale : FmOK Try.prog 132 m_s_l01Scale := @FmOK.made Try.prog E_s_l01Scale ek_s_l01Scale 132 Try.f132 noL m_s_l01Scale Try.func132 (by kernel_rfl) (Loops.none (by kernel_rfl)) fun ds out _ hr => by obtain ⟨v, byx, ⟨⟩⟩ := ds; exact (ev_s_l01Scale v byx).trans ((q_s_l01Scale v byx).trans hr)

def E_s_l01Add : Tabs := (mkE tab [] [])
set_option maxRecDepth 4000 in
theorem ek_s_l01Add : EnvOK Try.prog E_s_l01Add := (mkE_ok tab_ok mixed AllF.nil AllX.nil)
theorem ev_s_l01Add (a : dVec) (b : dVec) : evalF E_s_l01Add noL Try.f131 [.ro true tVec, .ro true tVec] (.one true tVec) (a, b, ()) = g_s_l01Add a b := by kernel_rfl
def m_s_l01Add : FM := { ps := [.ro true tVec, .ro true tVec], res := .one true tVec, run := fun x => some (t_s_l01Add x.1 x.2.1) }
set_option maxRecDepth 4000 in
theorem ok_s_l01Add : FmOK Try.prog 131 m_s_l01Add := @FmOK.made Try.prog E_s_l01Add ek_s_l01Add 131 Try.f131 noL m_s_l01Add Try.func131 (by kernel_rfl) (Loops.none (by kernel_rfl)) fun ds out _ hr => by obtain ⟨a, b, ⟨⟩⟩ := ds; exact (ev_s_l01Add a b).trans ((q_s_l01Add a b).trans hr)

def E_s_l02Rotate : Tabs := (mkE tab [(173, m_s_l02Axis), (174, m_s_l01Cross), (132, m_s_l01Scale), (131, m_s_l01Add)] [])
set_option maxRecDepth 4000 in
theorem ek_s_l02Rotate : EnvOK Try.prog E_s_l02Rotate := (mkE_ok tab_ok mixed (AllF.cons ok_s_l02Axis (AllF.cons ok_s_l01Cross (AllF.cons ok_s_l01Scale (AllF.cons ok_s_l01Add AllF.nil)))) AllX.nil)
theorem ev_s_l02Rotate (t : dTurn) (v : dVec) : evalF E_s_l02Rotate noL Try.f133 [.ro true tTurn, .ro true tVec] (.one true tVec) (t, v, ()) = g_s_l02Rotate t v := by kernel_rfl
def m_s_l02Rotate : FM := { ps := [.ro true tTurn, .ro true tVec], res := .one true tVec, run := fun x => some (t_s_l02Rotate x.1 x.2.1) }
set_option maxRecDepth 4000 in
theorem ok_s_l02Rotate : FmOK Try.prog 133 m_s_l02Rotate := @FmOK.made Try.prog E_s_l02Rotate ek_s_l02Rotate 133 Try.f133 noL m_s_l02Rotate Try.func133 (by kernel_rfl) (Loops.none (by kernel_rfl)) fun ds out _ hr => by obtain ⟨t, v, ⟨⟩⟩ := ds; exact (ev_s_l02Rotate t v).trans ((q_s_l02Rotate t v).trans hr)

def E_s_l03World : Tabs := (mkE tab [(164, m_s_l02Mul), (133, m_s_l02Rotate), (131, m_s_l01Add)] [])
set_option maxRecDepth 4000 in
theorem ek_s_l03World : EnvOK Try.prog E_s_l03World := (mkE_ok tab_ok mixed (AllF.cons ok_s_l02Mul (AllF.cons ok_s_l02Rotate (AllF.cons ok_s_l01Add AllF.nil))) AllX.nil)
def lm_L_s_l03World_1 : LM := { mat := [], head := { slots := [(0, .dat false (.ref tSkel)), (1, .dat false (.ref tPose)), (6, .cst (.sl (.row 0))), (7, .cst (.sl (.row 1))), (8, .dat false (.int .i64))], blks := [.row false tTurn, .row false tVec] }, out := { slots := [(6, .cst (.sl (.row 0))), (7, .cst (.sl (.row 1)))], blks := [.row false tTurn, .row false tVec] }, ex := 0, rets := false, run := iter L_s_l03World_1 fuel }
def ll_s_l03World : List (Nat × LP) := [(4, .lm lm_L_s_l03World_1)]
theorem rd_L_s_l03World_1 (rec' : (dSkel × dPose × Int × Unit) × ((List dTurn) × (List dVec) × Unit) → Option ((Unit) × ((List dTurn) × (List dVec) × Unit))) (k : dSkel) (p : dPose) (i : Int) (r0 : (List dTurn)) (r1 : (List dVec)) : round E_s_l03World (lookL ll_s_l03World) lm_L_s_l03World_1 73 (loopAt Try.f125 0) rec' ((k, p, i, ()), (r0, r1, ())) = L_s_l03World_1 rec' ((k, p, i, ()), (r0, r1, ())) := by kernel_rfl
theorem lo_s_l03World : Loops E_s_l03World (lookL ll_s_l03World) Try.f125 := Loops.list (by kernel_rfl) (by kernel_rfl) ⟨LoopOK.iter (step := L_s_l03World_1) (N := fun _ => fuel) (fun rec' x => by obtain ⟨⟨k, p, i, ⟨⟩⟩, ⟨r0, r1, ⟨⟩⟩⟩ := x; exact rd_L_s_l03World_1 rec' k p i r0 r1) fun _ => rfl, trivial⟩
theorem ev_s_l03World (k : dSkel) (p : dPose) : evalF E_s_l03World (lookL ll_s_l03World) Try.f125 [.rptr tSkel, .rptr tPose] (.tup [(false, (.slice tTurn)), (false, (.slice tVec))]) (k, p, ()) = g_s_l03World k p := by kernel_rfl
def m_s_l03World : FM := { ps := [.rptr tSkel, .rptr tPose], res := .tup [(false, (.slice tTurn)), (false, (.slice tVec))], run := fun x => g_s_l03World x.1 x.2.1 }
set_option maxRecDepth 4000 in
theorem ok_s_l03World : FmOK Try.prog 125 m_s_l03World := @FmOK.made Try.prog E_s_l03World ek_s_l03World 125 Try.f125 (lookL ll_s_l03World) m_s_l03World Try.func125 (by kernel_rfl) lo_s_l03World fun ds out _ hr => by obtain ⟨k, p, ⟨⟩⟩ := ds; exact (ev_s_l03World k p).trans hr

def E_s_l02Inverse : Tabs := (mkE tab [] [])
set_option maxRecDepth 4000 in
theorem ek_s_l02Inverse : EnvOK Try.prog E_s_l02Inverse := (mkE_ok tab_ok mixed AllF.nil AllX.nil)
theorem ev_s_l02Inverse (t : dTurn) : evalF E_s_l02Inverse noL Try.f165 [.ro true tTurn] (.one true tTurn) (t, ()) = g_s_l02Inverse t := by kernel_rfl
def m_s_l02Inverse : FM := { ps := [.ro true tTurn], res := .one true tTurn, run := fun x => some (t_s_l02Inverse x.1) }
set_option maxRecDepth 4000 in
theorem ok_s_l02Inverse : FmOK Try.prog 165 m_s_l02Inverse := @FmOK.made Try.prog E_s_l02Inverse ek_s_l02Inverse 165 Try.f165 noL m_s_l02Inverse Try.func165 (by kernel_rfl) (Loops.none (by kernel_rfl)) fun ds out _ hr => by obtain ⟨t, ⟨⟩⟩ := ds; exact (ev_s_l02Inverse t).trans ((q_s_l02Inverse t).trans hr)

def E_s_l01Less : Tabs := (mkE tab [] [])
set_option maxRecDepth 4000 in
theorem ek_s_l01Less : EnvOK Try.prog E_s_l01Less := (mkE_ok tab_ok mixed AllF.nil AllX.nil)
theorem ev_s_l01Less (a : dVec) (b : dVec) : evalF E_s_l01Less noL Try.f127 [.ro true tVec, .ro true tVec] (.one true tVec) (a, b, ()) = g_s_l01Less a b := by kernel_rfl
def m_s_l01Less : FM := { ps := [.ro true tVec, .ro true tVec], res := .one true tVec, run := fun x => some (t_s_l01Less x.1 x.2.1) }
set_option maxRecDepth 4000 in
theorem ok_s_l01Less : FmOK Try.prog 127 m_s_l01Less := @FmOK.made Try.prog E_s_l01Less ek_s_l01Less 127 Try.f127 noL m_s_l01Less Try.func127 (by kernel_rfl) (Loops.none (by kernel_rfl)) fun ds out _ hr => by obtain ⟨a, b, ⟨⟩⟩ := ds; exact (ev_s_l01Less a b).trans ((q_s_l01Less a b).trans hr)

def E_s_l09Moves : Tabs := (mkE tab [(125, m_s_l03World), (165, m_s_l02Inverse), (164, m_s_l02Mul), (133, m_s_l02Rotate), (127, m_s_l01Less)] [])
set_option maxRecDepth 4000 in
theorem ek_s_l09Moves : EnvOK Try.prog E_s_l09Moves := (mkE_ok tab_ok mixed (AllF.cons ok_s_l03World (AllF.cons ok_s_l02Inverse (AllF.cons ok_s_l02Mul (AllF.cons ok_s_l02Rotate (AllF.cons ok_s_l01Less AllF.nil))))) AllX.nil)
def lm_L_s_l09Moves_1 : LM := { mat := [], head := { slots := [(8, .cst (.sl (.row 0))), (9, .cst (.sl (.row 1))), (10, .cst (.sl (.row 2))), (11, .cst (.sl (.row 3))), (12, .cst (.sl (.row 4))), (13, .cst (.sl (.row 5))), (31, .dat false (.int .i64)), (32, .dat false (.int .i64))], blks := [.row false tTurn, .row false tVec, .row false tTurn, .row false tVec, .row false tTurn, .row false tVec] }, out := { slots := [(12, .cst (.sl (.row 4))), (13, .cst (.sl (.row 5)))], blks := [.dead, .dead, .dead, .dead, .row false tTurn, .row false tVec] }, ex := 0, rets := false, run := iter L_s_l09Moves_1 fuel }
def ll_s_l09Moves : List (Nat × LP) := [(6, .lm lm_L_s_l09Moves_1)]
theorem rd_L_s_l09Moves_1 (rec' : (Int × Int × Unit) × ((List dTurn) × (List dVec) × (List dTurn) × (List dVec) × (List dTurn) × (List dVec) × Unit) → Option ((Unit) × ((List dTurn) × (List dVec) × Unit))) (t31 : Int) (t32 : Int) (r0 : (List dTurn)) (r1 : (List dVec)) (r2 : (List dTurn)) (r3 : (List dVec)) (r4 : (List dTurn)) (r5 : (List dVec)) : round E_s_l09Moves (lookL ll_s_l09Moves) lm_L_s_l09Moves_1 66 (loopAt Try.f119 0) rec' ((t31, t32, ()), (r0, r1, r2, r3, r4, r5, ())) = L_s_l09Moves_1 rec' ((t31, t32, ()), (r0, r1, r2, r3, r4, r5, ())) := by kernel_rfl
theorem lo_s_l09Moves : Loops E_s_l09Moves (lookL ll_s_l09Moves) Try.f119 := Loops.list (by kernel_rfl) (by kernel_rfl) ⟨LoopOK.iter (step := L_s_l09Moves_1) (N := fun _ => fuel) (fun rec' x => by obtain ⟨⟨t31, t32, ⟨⟩⟩, ⟨r0, r1, r2, r3, r4, r5, ⟨⟩⟩⟩ := x; exact rd_L_s_l09Moves_1 rec' t31 t32 r0 r1 r2 r3 r4 r5) fun _ => rfl, trivial⟩
theorem ev_s_l09Moves (k : dSkel) (rest : dPose) (p : dPose) : evalF E_s_l09Moves (lookL ll_s_l09Moves) Try.f119 [.rptr tSkel, .rptr tPose, .rptr tPose] (.tup [(false, (.slice tTurn)), (false, (.slice tVec))]) (k, rest, p, ()) = g_s_l09Moves k rest p := by kernel_rfl
def m_s_l09Moves : FM := { ps := [.rptr tSkel, .rptr tPose, .rptr tPose], res := .tup [(false, (.slice tTurn)), (false, (.slice tVec))], run := fun x => g_s_l09Moves x.1 x.2.1 x.2.2.1 }
set_option maxRecDepth 4000 in
theorem ok_s_l09Moves : FmOK Try.prog 119 m_s_l09Moves := @FmOK.made Try.prog E_s_l09Moves ek_s_l09Moves 119 Try.f119 (lookL ll_s_l09Moves) m_s_l09Moves Try.func119 (by kernel_rfl) lo_s_l09Moves fun ds out _ hr => by obtain ⟨k, rest, p, ⟨⟩⟩ := ds; exact (ev_s_l09Moves k rest p).trans hr

def E_s_l02Inner : Tabs := (mkE tab [] [])
set_option maxRecDepth 4000 in
theorem ek_s_l02Inner : EnvOK Try.prog E_s_l02Inner := (mkE_ok tab_ok mixed AllF.nil AllX.nil)
theorem ev_s_l02Inner (a : dTurn) (b : dTurn) : evalF E_s_l02Inner noL Try.f178 [.ro true tTurn, .ro true tTurn] (.one false (.flt .f32)) (a, b, ()) = g_s_l02Inner a b := by kernel_rfl
def m_s_l02Inner : FM := { ps := [.ro true tTurn, .ro true tTurn], res := .one false (.flt .f32), run := fun x => some (t_s_l02Inner x.1 x.2.1) }
set_option maxRecDepth 4000 in
theorem ok_s_l02Inner : FmOK Try.prog 178 m_s_l02Inner := @FmOK.made Try.prog E_s_l02Inner ek_s_l02Inner 178 Try.f178 noL m_s_l02Inner Try.func178 (by kernel_rfl) (Loops.none (by kernel_rfl)) fun ds out _ hr => by obtain ⟨a, b, ⟨⟩⟩ := ds; exact (ev_s_l02Inner a b).trans ((q_s_l02Inner a b).trans hr)

def E_s_l02Opposite : Tabs := (mkE tab [] [])
set_option maxRecDepth 4000 in
theorem ek_s_l02Opposite : EnvOK Try.prog E_s_l02Opposite := (mkE_ok tab_ok mixed AllF.nil AllX.nil)
theorem ev_s_l02Opposite (t : dTurn) (inner : Nat) : evalF E_s_l02Opposite noL Try.f177 [.ro true tTurn, .ro false (.flt .f32)] (.one true tTurn) (t, inner, ()) = g_s_l02Opposite t inner := by kernel_rfl
def m_s_l02Opposite : FM := { ps := [.ro true tTurn, .ro false (.flt .f32)], res := .one true tTurn, run := fun x => some (t_s_l02Opposite x.1 x.2.1) }
set_option maxRecDepth 4000 in
theorem ok_s_l02Opposite : FmOK Try.prog 177 m_s_l02Opposite := @FmOK.made Try.prog E_s_l02Opposite ek_s_l02Opposite 177 Try.f177 noL m_s_l02Opposite Try.func177 (by kernel_rfl) (Loops.none (by kernel_rfl)) fun ds out _ hr => by obtain ⟨t, inner, ⟨⟩⟩ := ds; exact (ev_s_l02Opposite t inner).trans ((q_s_l02Opposite t inner).trans hr)

set_option maxRecDepth 4000 in
theorem ok_mathsqrt : FmOK Try.prog 206 m_mathsqrt := FmOK.sqrt Try.func206 (by kernel_rfl) rfl (by kernel_rfl) (by kernel_rfl)

def E_math_Sqrt : Tabs := (mkE tab [(206, m_mathsqrt)] [])
set_option maxRecDepth 4000 in
theorem ek_math_Sqrt : EnvOK Try.prog E_math_Sqrt := (mkE_ok tab_ok mixed (AllF.cons ok_mathsqrt AllF.nil) AllX.nil)
theorem ev_math_Sqrt (xx : Nat) : evalF E_math_Sqrt noL Try.f191 [.ro false (.flt .f64)] (.one false (.flt .f64)) (xx, ()) = g_math_Sqrt xx := by kernel_rfl
def m_math_Sqrt : FM := { ps := [.ro false (.flt .f64)], res := .one false (.flt .f64), run := fun x => some (t_math_Sqrt x.1) }
set_option maxRecDepth 4000 in
theorem ok_math_Sqrt : FmOK Try.prog 191 m_math_Sqrt := @FmOK.made Try.prog E_math_Sqrt ek_math_Sqrt 191 Try.f191 noL m_math_Sqrt Try.func191 (by kernel_rfl) (Loops.none (by kernel_rfl)) fun ds out _ hr => by obtain ⟨xx, ⟨⟩⟩ := ds; exact (ev_math_Sqrt xx).trans ((q_math_Sqrt xx).trans hr)

def E_s_l01Narrow : Tabs := (mkE tab [] [])
set_option maxRecDepth 4000 in
theorem ek_s_l01Narrow : EnvOK Try.prog E_s_l01Narrow := (mkE_ok tab_ok mixed AllF.nil AllX.nil)
theorem ev_s_l01Narrow (xx : Nat) : evalF E_s_l01Narrow noL Try.f190 [.ro false (.flt .f64)] (.one false (.flt .f32)) (xx, ()) = g_s_l01Narrow xx := by kernel_rfl
def m_s_l01Narrow : FM := { ps := [.ro false (.flt .f64)], res := .one false (.flt .f32), run := fun x => g_s_l01Narrow x.1 }
set_option maxRecDepth 4000 in
theorem ok_s_l01Narrow : FmOK Try.prog 190 m_s_l01Narrow := @FmOK.made Try.prog E_s_l01Narrow ek_s_l01Narrow 190 Try.f190 noL m_s_l01Narrow Try.func190 (by kernel_rfl) (Loops.none (by kernel_rfl)) fun ds out _ hr => by obtain ⟨xx, ⟨⟩⟩ := ds; exact (ev_s_l01Narrow xx).trans hr

def E_s_l01Sqrt : Tabs := (mkE tab [(191, m_math_Sqrt), (190, m_s_l01Narrow)] [])
set_option maxRecDepth 4000 in
theorem ek_s_l01Sqrt : EnvOK Try.prog E_s_l01Sqrt := (mkE_ok tab_ok mixed (AllF.cons ok_math_Sqrt (AllF.cons ok_s_l01Narrow AllF.nil)) AllX.nil)
theorem ev_s_l01Sqrt (xx : Nat) : evalF E_s_l01Sqrt noL Try.f169 [.ro false (.flt .f32)] (.one false (.flt .f32)) (xx, ()) = g_s_l01Sqrt xx := by kernel_rfl
def m_s_l01Sqrt : FM := { ps := [.ro false (.flt .f32)], res := .one false (.flt .f32), run := fun x => g_s_l01Sqrt x.1 }
set_option maxRecDepth 4000 in
theorem ok_s_l01Sqrt : FmOK Try.prog 169 m_s_l01Sqrt := @FmOK.made Try.prog E_s_l01Sqrt ek_s_l01Sqrt 169 Try.f169 noL m_s_l01Sqrt Try.func169 (by kernel_rfl) (Loops.none (by kernel_rfl)) fun ds out _ hr => by obtain ⟨xx, ⟨⟩⟩ := ds; exact (ev_s_l01Sqrt xx).trans hr

def E_s_l02No : Tabs := (mkE tab [] [])
set_option maxRecDepth 4000 in
theorem ek_s_l02No : EnvOK Try.prog E_s_l02No := (mkE_ok tab_ok mixed AllF.nil AllX.nil)
theorem ev_s_l02No  : evalF E_s_l02No noL Try.f192 [] (.one true tTurn) (()) = g_s_l02No  := by kernel_rfl
def m_s_l02No : FM := { ps := [], res := .one true tTurn, run := fun x => some (t_s_l02No ) }
set_option maxRecDepth 4000 in
theorem ok_s_l02No : FmOK Try.prog 192 m_s_l02No := @FmOK.made Try.prog E_s_l02No ek_s_l02No 192 Try.f192 noL m_s_l02No Try.func192 (by kernel_rfl) (Loops.none (by kernel_rfl)) fun ds out _ hr => by obtain ⟨⟨⟩⟩ := ds; exact (ev_s_l02No ).trans ((q_s_l02No ).trans hr)

def E_s_l01Finite : Tabs := (mkE tab [] [])
set_option maxRecDepth 4000 in
theorem ek_s_l01Finite : EnvOK Try.prog E_s_l01Finite := (mkE_ok tab_ok mixed AllF.nil AllX.nil)
theorem ev_s_l01Finite (xx : Nat) : evalF E_s_l01Finite noL Try.f104 [.ro false (.flt .f32)] (.one false .bool) (xx, ()) = g_s_l01Finite xx := by kernel_rfl
def m_s_l01Finite : FM := { ps := [.ro false (.flt .f32)], res := .one false .bool, run := fun x => some (t_s_l01Finite x.1) }
set_option maxRecDepth 4000 in
theorem ok_s_l01Finite : FmOK Try.prog 104 m_s_l01Finite := @FmOK.made Try.prog E_s_l01Finite ek_s_l01Finite 104 Try.f104 noL m_s_l01Finite Try.func104 (by kernel_rfl) (Loops.none (by kernel_rfl)) fun ds out _ hr => by obtain ⟨xx, ⟨⟩⟩ := ds; exact (ev_s_l01Finite xx).trans ((q_s_l01Finite xx).trans hr)

def E_s_l02Mend : Tabs := (mkE tab [(178, m_s_l02Inner), (169, m_s_l01Sqrt), (192, m_s_l02No), (104, m_s_l01Finite)] [])
set_option maxRecDepth 4000 in
theorem ek_s_l02Mend : EnvOK Try.prog E_s_l02Mend := (mkE_ok tab_ok mixed (AllF.cons ok_s_l02Inner (AllF.cons ok_s_l01Sqrt (AllF.cons ok_s_l02No (AllF.cons ok_s_l01Finite AllF.nil)))) AllX.nil)
theorem ev_s_l02Mend (t : dTurn) : evalF E_s_l02Mend noL Try.f179 [.ro true tTurn] (.one true tTurn) (t, ()) = g_s_l02Mend t := by kernel_rfl
def m_s_l02Mend : FM := { ps := [.ro true tTurn], res := .one true tTurn, run := fun x => g_s_l02Mend x.1 }
set_option maxRecDepth 4000 in
theorem ok_s_l02Mend : FmOK Try.prog 179 m_s_l02Mend := @FmOK.made Try.prog E_s_l02Mend ek_s_l02Mend 179 Try.f179 noL m_s_l02Mend Try.func179 (by kernel_rfl) (Loops.none (by kernel_rfl)) fun ds out _ hr => by obtain ⟨t, ⟨⟩⟩ := ds; exact (ev_s_l02Mend t).trans hr

def E_s_l02Mix : Tabs := (mkE tab [(178, m_s_l02Inner), (177, m_s_l02Opposite), (179, m_s_l02Mend)] [])
set_option maxRecDepth 4000 in
theorem ek_s_l02Mix : EnvOK Try.prog E_s_l02Mix := (mkE_ok tab_ok mixed (AllF.cons ok_s_l02Inner (AllF.cons ok_s_l02Opposite (AllF.cons ok_s_l02Mend AllF.nil))) AllX.nil)
def lm_L_s_l02Mix_1 : LM := { mat := [], head := { slots := [(0, .dat false (.slice tTurn)), (1, .dat false (.slice (.flt .f32))), (4, .cst (.ptr (.box 0 0))), (5, .cst (.ptr (.box 1 0))), (6, .dat false (.int .i64))], blks := [.box [.dat tTurn], .box [.dat tTurn]] }, out := { slots := [(4, .cst (.ptr (.box 0 0))), (5, .cst (.ptr (.box 1 0)))], blks := [.box [.dat tTurn], .box [.dat tTurn]] }, ex := 0, rets := false, run := iter L_s_l02Mix_1 fuel }
def ll_s_l02Mix : List (Nat × LP) := [(3, .lm lm_L_s_l02Mix_1)]
theorem rd_L_s_l02Mix_1 (rec' : ((List dTurn) × (List Nat) × Int × Unit) × ((dTurn × Unit) × (dTurn × Unit) × Unit) → Option ((Unit) × ((dTurn × Unit) × (dTurn × Unit) × Unit))) (list : (List dTurn)) (weights : (List Nat)) (i : Int) (b0 : dTurn) (b1 : dTurn) : round E_s_l02Mix (lookL ll_s_l02Mix) lm_L_s_l02Mix_1 74 (loopAt Try.f138 0) rec' ((list, weights, i, ()), ((b0, ()), (b1, ()), ())) = L_s_l02Mix_1 rec' ((list, weights, i, ()), ((b0, ()), (b1, ()), ())) := by kernel_rfl
theorem lo_s_l02Mix : Loops E_s_l02Mix (lookL ll_s_l02Mix) Try.f138 := Loops.list (by kernel_rfl) (by kernel_rfl) ⟨LoopOK.iter (step := L_s_l02Mix_1) (N := fun _ => fuel) (fun rec' x => by obtain ⟨⟨list, weights, i, ⟨⟩⟩, ⟨⟨b0, ⟨⟩⟩, ⟨b1, ⟨⟩⟩, ⟨⟩⟩⟩ := x; exact rd_L_s_l02Mix_1 rec' list weights i b0 b1) fun _ => rfl, trivial⟩
theorem ev_s_l02Mix (list : (List dTurn)) (weights : (List Nat)) : evalF E_s_l02Mix (lookL ll_s_l02Mix) Try.f138 [.ro false (.slice tTurn), .ro false (.slice (.flt .f32))] (.one true tTurn) (list, weights, ()) = g_s_l02Mix list weights := by kernel_rfl
def m_s_l02Mix : FM := { ps := [.ro false (.slice tTurn), .ro false (.slice (.flt .f32))], res := .one true tTurn, run := fun x => g_s_l02Mix x.1 x.2.1 }
set_option maxRecDepth 4000 in
theorem ok_s_l02Mix : FmOK Try.prog 138 m_s_l02Mix := @FmOK.made Try.prog E_s_l02Mix ek_s_l02Mix 138 Try.f138 (lookL ll_s_l02Mix) m_s_l02Mix Try.func138 (by kernel_rfl) lo_s_l02Mix fun ds out _ hr => by obtain ⟨list, weights, ⟨⟩⟩ := ds; exact (ev_s_l02Mix list weights).trans hr

def E_s_SkinMixed : Tabs := (mkE tab [(118, m_s_l03Pose), (94, m_s_l09Skin), (119, m_s_l09Moves), (132, m_s_l01Scale), (131, m_s_l01Add), (138, m_s_l02Mix), (133, m_s_l02Rotate)] [])
set_option maxRecDepth 4000 in
theorem ek_s_SkinMixed : EnvOK Try.prog E_s_SkinMixed := (mkE_ok tab_ok mixed (AllF.cons ok_s_l03Pose (AllF.cons ok_s_l09Skin (AllF.cons ok_s_l09Moves (AllF.cons ok_s_l01Scale (AllF.cons ok_s_l01Add (AllF.cons ok_s_l02Mix (AllF.cons ok_s_l02Rotate AllF.nil))))))) AllX.nil)
def lm_L_s_SkinMixed_2 : LM := { mat := [], head := { slots := [(3, .dat false (.slice tSkinPoint)), (10, .cst (.sl (.row 3))), (11, .cst (.sl (.row 4))), (12, .cst (.sl (.row 5))), (14, .cst (.ptr (.box 6 0))), (15, .cst (.ptr (.box 7 0))), (16, .cst (.sl (.row 8))), (36, .dat false (.int .i64)), (37, .dat false (.int .i64)), (48, .dat false (.int .i64)), (49, .dat false (.int .i64))], blks := [.dead, .dead, .dead, .row false tTurn, .row false tVec, .row false tVec, .box [.dat tSkinPoint], .box [.dat tVec], .row false tTurn] }, out := { slots := [(3, .dat false (.slice tSkinPoint)), (10, .cst (.sl (.row 3))), (11, .cst (.sl (.row 4))), (12, .cst (.sl (.row 5))), (14, .cst (.ptr (.box 6 0))), (15, .cst (.ptr (.box 7 0))), (16, .cst (.sl (.row 8))), (36, .dat false (.int .i64)), (37, .dat false (.int .i64))], blks := [.dead, .dead, .dead, .row false tTurn, .row false tVec, .row false tVec, .box [.dat tSkinPoint], .box [.dat tVec], .row false tTurn] }, ex := 2, rets := false, run := iter L_s_SkinMixed_2 fuel }
def lm_L_s_SkinMixed_1 : LM := { mat := [], head := { slots := [(3, .dat false (.slice tSkinPoint)), (10, .cst (.sl (.row 3))), (11, .cst (.sl (.row 4))), (12, .cst (.sl (.row 5))), (36, .dat false (.int .i64)), (37, .dat false (.int .i64))], blks := [.dead, .dead, .dead, .row false tTurn, .row false tVec, .row false tVec] }, out := { slots := [(12, .cst (.sl (.row 5)))], blks := [.dead, .dead, .dead, .dead, .dead, .row false tVec] }, ex := 0, rets := false, run := iter L_s_SkinMixed_1 fuel }
def ll_s_SkinMixed : List (Nat × LP) := [(6, .lm lm_L_s_SkinMixed_1), (12, .lm lm_L_s_SkinMixed_2)]
theorem rd_L_s_SkinMixed_2 (rec' : ((List dSkinPoint) × Int × Int × Int × Int × Unit) × ((List dTurn) × (List dVec) × (List dVec) × (dSkinPoint × Unit) × (dVec × Unit) × (List dTurn) × Unit) → Option (((List dSkinPoint) × Int × Int × Unit) × ((List dTurn) × (List dVec) × (List dVec) × (dSkinPoint × Unit) × (dVec × Unit) × (List dTurn) × Unit))) (points : (List dSkinPoint)) (t36 : Int) (t37 : Int) (t48 : Int) (t49 : Int) (r3 : (List dTurn)) (r4 : (List dVec)) (r5 : (List dVec)) (b6 : dSkinPoint) (b7 : dVec) (r8 : (List dTurn)) : round E_s_SkinMixed (lookL ll_s_SkinMixed) lm_L_s_SkinMixed_2 91 (loopAt Try.f57 1) rec' ((points, t36, t37, t48, t49, ()), (r3, r4, r5, (b6, ()), (b7, ()), r8, ())) = L_s_SkinMixed_2 rec' ((points, t36, t37, t48, t49, ()), (r3, r4, r5, (b6, ()), (b7, ()), r8, ())) := by kernel_rfl
theorem rd_L_s_SkinMixed_1 (rec' : ((List dSkinPoint) × Int × Int × Unit) × ((List dTurn) × (List dVec) × (List dVec) × Unit) → Option ((Unit) × ((List dVec) × Unit))) (points : (List dSkinPoint)) (t36 : Int) (t37 : Int) (r3 : (List dTurn)) (r4 : (List dVec)) (r5 : (List dVec)) : round E_s_SkinMixed (lookL ll_s_SkinMixed) lm_L_s_SkinMixed_1 91 (loopAt Try.f57 0) rec' ((points, t36, t37, ()), (r3, r4, r5, ())) = L_s_SkinMixed_1 rec' ((points, t36, t37, ()), (r3, r4, r5, ())) := by kernel_rfl
theorem lo_s_SkinMixed : Loops E_s_SkinMixed (lookL ll_s_SkinMixed) Try.f57 := Loops.list (by kernel_rfl) (by kernel_rfl) ⟨LoopOK.iter (step := L_s_SkinMixed_1) (N := fun _ => fuel) (fun rec' x => by obtain ⟨⟨points, t36, t37, ⟨⟩⟩, ⟨r3, r4, r5, ⟨⟩⟩⟩ := x; exact rd_L_s_SkinMixed_1 rec' points t36 t37 r3 r4 r5) fun _ => rfl, LoopOK.iter (step := L_s_SkinMixed_2) (N := fun _ => fuel) (fun rec' x => by obtain ⟨⟨points, t36, t37, t48, t49, ⟨⟩⟩, ⟨r3, r4, r5, ⟨b6, ⟨⟩⟩, ⟨b7, ⟨⟩⟩, r8, ⟨⟩⟩⟩ := x; exact rd_L_s_SkinMixed_2 rec' points t36 t37 t48 t49 r3 r4 r5 b6 b7 r8) fun _ => rfl, trivial⟩
theorem ev_s_SkinMixed (k : dSkel) (rest : dPose) (p : dPose) (points : (List dSkinPoint)) : evalF E_s_SkinMixed (lookL ll_s_SkinMixed) Try.f57 [.ro true tSkel, .ro true tPose, .ro true tPose, .ro false (.slice tSkinPoint)] (.tup [(false, (.slice tVec)), (false, .bool)]) (k, rest, p, points, ()) = g_s_SkinMixed k rest p points := by kernel_rfl
def m_s_SkinMixed : FM := { ps := [.ro true tSkel, .ro true tPose, .ro true tPose, .ro false (.slice tSkinPoint)], res := .tup [(false, (.slice tVec)), (false, .bool)], run := fun x => g_s_SkinMixed x.1 x.2.1 x.2.2.1 x.2.2.2.1 }
set_option maxRecDepth 4000 in
theorem ok_s_SkinMixed : FmOK Try.prog 57 m_s_SkinMixed := @FmOK.made Try.prog E_s_SkinMixed ek_s_SkinMixed 57 Try.f57 (lookL ll_s_SkinMixed) m_s_SkinMixed Try.func57 (by kernel_rfl) lo_s_SkinMixed fun ds out _ hr => by obtain ⟨k, rest, p, points, ⟨⟩⟩ := ds; exact (ev_s_SkinMixed k rest p points).trans hr

def E_i_ValidSkeleton : Tabs := (mkE tab [] [])
set_option maxRecDepth 4000 in
theorem ek_i_ValidSkeleton : EnvOK Try.prog E_i_ValidSkeleton := (mkE_ok tab_ok mixed AllF.nil AllX.nil)
def lm_L_i_ValidSkeleton_1 : LM := { mat := [], head := { slots := [(2, .dat false .bool), (25, .dat false (.slice tRootKey)), (26, .dat false (.int .i64)), (27, .dat false (.int .i64))], blks := [.dead] }, out := { slots := [(2, .dat false .bool)], blks := [.dead] }, ex := 0, rets := true, run := iter L_i_ValidSkeleton_1 fuel }
def ll_i_ValidSkeleton : List (Nat × LP) := [(4, .lm lm_L_i_ValidSkeleton_1)]
theorem rd_L_i_ValidSkeleton_1 (rec' : (Bool × (List dRootKey) × Int × Int × Unit) × (Unit) → Option (Bool × ((Bool × Unit) × (Unit)))) (t2 : Bool) (t25 : (List dRootKey)) (t26 : Int) (t27 : Int) : round E_i_ValidSkeleton (lookL ll_i_ValidSkeleton) lm_L_i_ValidSkeleton_1 42 (loopAt Try.f97 0) rec' ((t2, t25, t26, t27, ()), (())) = L_i_ValidSkeleton_1 rec' ((t2, t25, t26, t27, ()), (())) := by kernel_rfl
theorem lo_i_ValidSkeleton : Loops E_i_ValidSkeleton (lookL ll_i_ValidSkeleton) Try.f97 := Loops.list (by kernel_rfl) (by kernel_rfl) ⟨LoopOK.iter (step := L_i_ValidSkeleton_1) (N := fun _ => fuel) (fun rec' x => by obtain ⟨⟨t2, t25, t26, t27, ⟨⟩⟩, ⟨⟨⟩⟩⟩ := x; exact rd_L_i_ValidSkeleton_1 rec' t2 t25 t26 t27) fun _ => rfl, trivial⟩
theorem ev_i_ValidSkeleton (k : dSkel) : evalF E_i_ValidSkeleton (lookL ll_i_ValidSkeleton) Try.f97 [.ro true tSkel] (.one false .bool) (k, ()) = g_i_ValidSkeleton k := by kernel_rfl
def m_i_ValidSkeleton : FM := { ps := [.ro true tSkel], res := .one false .bool, run := fun x => g_i_ValidSkeleton x.1 }
set_option maxRecDepth 4000 in
theorem ok_i_ValidSkeleton : FmOK Try.prog 97 m_i_ValidSkeleton := @FmOK.made Try.prog E_i_ValidSkeleton ek_i_ValidSkeleton 97 Try.f97 (lookL ll_i_ValidSkeleton) m_i_ValidSkeleton Try.func97 (by kernel_rfl) lo_i_ValidSkeleton fun ds out _ hr => by obtain ⟨k, ⟨⟩⟩ := ds; exact (ev_i_ValidSkeleton k).trans hr

def E_i_IsPose : Tabs := (mkE tab [(97, m_i_ValidSkeleton)] [])
set_option maxRecDepth 4000 in
theorem ek_i_IsPose : EnvOK Try.prog E_i_IsPose := (mkE_ok tab_ok mixed (AllF.cons ok_i_ValidSkeleton AllF.nil) AllX.nil)
theorem ev_i_IsPose (k : dSkel) (p : dPose) : evalF E_i_IsPose noL Try.f121 [.ro true tSkel, .ro true tPose] (.one false .bool) (k, p, ()) = g_i_IsPose k p := by kernel_rfl
def m_i_IsPose : FM := { ps := [.ro true tSkel, .ro true tPose], res := .one false .bool, run := fun x => g_i_IsPose x.1 x.2.1 }
set_option maxRecDepth 4000 in
theorem ok_i_IsPose : FmOK Try.prog 121 m_i_IsPose := @FmOK.made Try.prog E_i_IsPose ek_i_IsPose 121 Try.f121 noL m_i_IsPose Try.func121 (by kernel_rfl) (Loops.none (by kernel_rfl)) fun ds out _ hr => by obtain ⟨k, p, ⟨⟩⟩ := ds; exact (ev_i_IsPose k p).trans hr

def E_i_SkinPoint_isHeld : Tabs := (mkE tab [] [])
set_option maxRecDepth 4000 in
theorem ek_i_SkinPoint_isHeld : EnvOK Try.prog E_i_SkinPoint_isHeld := (mkE_ok tab_ok mixed AllF.nil AllX.nil)
theorem ev_i_SkinPoint_isHeld (p : dSkinPoint) : evalF E_i_SkinPoint_isHeld noL Try.f98 [.ro true tSkinPoint] (.one false .bool) (p, ()) = g_i_SkinPoint_isHeld p := by kernel_rfl
def m_i_SkinPoint_isHeld : FM := { ps := [.ro true tSkinPoint], res := .one false .bool, run := fun x => some (t_i_SkinPoint_isHeld x.1) }
set_option maxRecDepth 4000 in
theorem ok_i_SkinPoint_isHeld : FmOK Try.prog 98 m_i_SkinPoint_isHeld := @FmOK.made Try.prog E_i_SkinPoint_isHeld ek_i_SkinPoint_isHeld 98 Try.f98 noL m_i_SkinPoint_isHeld Try.func98 (by kernel_rfl) (Loops.none (by kernel_rfl)) fun ds out _ hr => by obtain ⟨p, ⟨⟩⟩ := ds; exact (ev_i_SkinPoint_isHeld p).trans ((q_i_SkinPoint_isHeld p).trans hr)

def E_i_IsSkin : Tabs := (mkE tab [(97, m_i_ValidSkeleton), (98, m_i_SkinPoint_isHeld)] [])
set_option maxRecDepth 4000 in
theorem ek_i_IsSkin : EnvOK Try.prog E_i_IsSkin := (mkE_ok tab_ok mixed (AllF.cons ok_i_ValidSkeleton (AllF.cons ok_i_SkinPoint_isHeld AllF.nil)) AllX.nil)
def lm_L_i_IsSkin_2 : LM := { mat := [], head := { slots := [(2, .cst (.ptr (.box 0 0))), (4, .dat false .bool), (7, .dat false (.int .i64)), (18, .dat false (.slice tSkinPoint)), (19, .dat false (.int .i64)), (20, .dat false (.int .i64)), (28, .dat false (.slice (.int .i64))), (29, .dat false (.int .i64)), (30, .dat false (.int .i64))], blks := [.box [.dat tSkel], .dead] }, out := { slots := [(2, .cst (.ptr (.box 0 0))), (4, .dat false .bool), (18, .dat false (.slice tSkinPoint)), (19, .dat false (.int .i64)), (20, .dat false (.int .i64))], blks := [.box [.dat tSkel], .dead] }, ex := 2, rets := true, run := iter L_i_IsSkin_2 fuel }
def lm_L_i_IsSkin_1 : LM := { mat := [], head := { slots := [(2, .cst (.ptr (.box 0 0))), (4, .dat false .bool), (18, .dat false (.slice tSkinPoint)), (19, .dat false (.int .i64)), (20, .dat false (.int .i64))], blks := [.box [.dat tSkel]] }, out := { slots := [(4, .dat false .bool)], blks := [.dead] }, ex := 0, rets := true, run := iter L_i_IsSkin_1 fuel }
def ll_i_IsSkin : List (Nat × LP) := [(4, .lm lm_L_i_IsSkin_1), (10, .lm lm_L_i_IsSkin_2)]
theorem rd_L_i_IsSkin_2 (rec' : (Bool × Int × (List dSkinPoint) × Int × Int × (List Int) × Int × Int × Unit) × ((dSkel × Unit) × Unit) → Option (Bool × ((Bool × (List dSkinPoint) × Int × Int × Unit) × ((dSkel × Unit) × Unit)))) (t4 : Bool) (last : Int) (t18 : (List dSkinPoint)) (t19 : Int) (t20 : Int) (t28 : (List Int)) (t29 : Int) (t30 : Int) (b0 : dSkel) : round E_i_IsSkin (lookL ll_i_IsSkin) lm_L_i_IsSkin_2 47 (loopAt Try.f28 1) rec' ((t4, last, t18, t19, t20, t28, t29, t30, ()), ((b0, ()), ())) = L_i_IsSkin_2 rec' ((t4, last, t18, t19, t20, t28, t29, t30, ()), ((b0, ()), ())) := by kernel_rfl
theorem rd_L_i_IsSkin_1 (rec' : (Bool × (List dSkinPoint) × Int × Int × Unit) × ((dSkel × Unit) × Unit) → Option (Bool × ((Bool × Unit) × (Unit)))) (t4 : Bool) (t18 : (List dSkinPoint)) (t19 : Int) (t20 : Int) (b0 : dSkel) : round E_i_IsSkin (lookL ll_i_IsSkin) lm_L_i_IsSkin_1 47 (loopAt Try.f28 0) rec' ((t4, t18, t19, t20, ()), ((b0, ()), ())) = L_i_IsSkin_1 rec' ((t4, t18, t19, t20, ()), ((b0, ()), ())) := by kernel_rfl
theorem lo_i_IsSkin : Loops E_i_IsSkin (lookL ll_i_IsSkin) Try.f28 := Loops.list (by kernel_rfl) (by kernel_rfl) ⟨LoopOK.iter (step := L_i_IsSkin_1) (N := fun _ => fuel) (fun rec' x => by obtain ⟨⟨t4, t18, t19, t20, ⟨⟩⟩, ⟨⟨b0, ⟨⟩⟩, ⟨⟩⟩⟩ := x; exact rd_L_i_IsSkin_1 rec' t4 t18 t19 t20 b0) fun _ => rfl, LoopOK.iter (step := L_i_IsSkin_2) (N := fun _ => fuel) (fun rec' x => by obtain ⟨⟨t4, last, t18, t19, t20, t28, t29, t30, ⟨⟩⟩, ⟨⟨b0, ⟨⟩⟩, ⟨⟩⟩⟩ := x; exact rd_L_i_IsSkin_2 rec' t4 last t18 t19 t20 t28 t29 t30 b0) fun _ => rfl, trivial⟩
theorem ev_i_IsSkin (k : dSkel) (points : (List dSkinPoint)) : evalF E_i_IsSkin (lookL ll_i_IsSkin) Try.f28 [.ro true tSkel, .ro false (.slice tSkinPoint)] (.one false .bool) (k, points, ()) = g_i_IsSkin k points := by kernel_rfl
def m_i_IsSkin : FM := { ps := [.ro true tSkel, .ro false (.slice tSkinPoint)], res := .one false .bool, run := fun x => g_i_IsSkin x.1 x.2.1 }
set_option maxRecDepth 4000 in
theorem ok_i_IsSkin : FmOK Try.prog 28 m_i_IsSkin := @FmOK.made Try.prog E_i_IsSkin ek_i_IsSkin 28 Try.f28 (lookL ll_i_IsSkin) m_i_IsSkin Try.func28 (by kernel_rfl) lo_i_IsSkin fun ds out _ hr => by obtain ⟨k, points, ⟨⟩⟩ := ds; exact (ev_i_IsSkin k points).trans hr

def E_i_canSkin : Tabs := (mkE tab [(121, m_i_IsPose), (28, m_i_IsSkin)] [])
set_option maxRecDepth 4000 in
theorem ek_i_canSkin : EnvOK Try.prog E_i_canSkin := (mkE_ok tab_ok mixed (AllF.cons ok_i_IsPose (AllF.cons ok_i_IsSkin AllF.nil)) AllX.nil)
theorem ev_i_canSkin (k : dSkel) (rest : dPose) (p : dPose) (points : (List dSkinPoint)) : evalF E_i_canSkin noL Try.f134 [.ro true tSkel, .ro true tPose, .ro true tPose, .ro false (.slice tSkinPoint)] (.one false .bool) (k, rest, p, points, ()) = g_i_canSkin k rest p points := by kernel_rfl
def m_i_canSkin : FM := { ps := [.ro true tSkel, .ro true tPose, .ro true tPose, .ro false (.slice tSkinPoint)], res := .one false .bool, run := fun x => g_i_canSkin x.1 x.2.1 x.2.2.1 x.2.2.2.1 }
set_option maxRecDepth 4000 in
theorem ok_i_canSkin : FmOK Try.prog 134 m_i_canSkin := @FmOK.made Try.prog E_i_canSkin ek_i_canSkin 134 Try.f134 noL m_i_canSkin Try.func134 (by kernel_rfl) (Loops.none (by kernel_rfl)) fun ds out _ hr => by obtain ⟨k, rest, p, points, ⟨⟩⟩ := ds; exact (ev_i_canSkin k rest p points).trans hr

def E_i_MulTurns : Tabs := (mkE tab [] [])
set_option maxRecDepth 4000 in
theorem ek_i_MulTurns : EnvOK Try.prog E_i_MulTurns := (mkE_ok tab_ok mixed AllF.nil AllX.nil)
theorem ev_i_MulTurns (a : dTurn) (b : dTurn) : evalF E_i_MulTurns noL Try.f167 [.ro true tTurn, .ro true tTurn] (.one true tTurn) (a, b, ()) = g_i_MulTurns a b := by kernel_rfl
def m_i_MulTurns : FM := { ps := [.ro true tTurn, .ro true tTurn], res := .one true tTurn, run := fun x => some (t_i_MulTurns x.1 x.2.1) }
set_option maxRecDepth 4000 in
theorem ok_i_MulTurns : FmOK Try.prog 167 m_i_MulTurns := @FmOK.made Try.prog E_i_MulTurns ek_i_MulTurns 167 Try.f167 noL m_i_MulTurns Try.func167 (by kernel_rfl) (Loops.none (by kernel_rfl)) fun ds out _ hr => by obtain ⟨a, b, ⟨⟩⟩ := ds; exact (ev_i_MulTurns a b).trans ((q_i_MulTurns a b).trans hr)

def E_i_Turn_vector : Tabs := (mkE tab [] [])
set_option maxRecDepth 4000 in
theorem ek_i_Turn_vector : EnvOK Try.prog E_i_Turn_vector := (mkE_ok tab_ok mixed AllF.nil AllX.nil)
theorem ev_i_Turn_vector (t : dTurn) : evalF E_i_Turn_vector noL Try.f175 [.ro true tTurn] (.one true tVec) (t, ()) = g_i_Turn_vector t := by kernel_rfl
def m_i_Turn_vector : FM := { ps := [.ro true tTurn], res := .one true tVec, run := fun x => some (t_i_Turn_vector x.1) }
set_option maxRecDepth 4000 in
theorem ok_i_Turn_vector : FmOK Try.prog 175 m_i_Turn_vector := @FmOK.made Try.prog E_i_Turn_vector ek_i_Turn_vector 175 Try.f175 noL m_i_Turn_vector Try.func175 (by kernel_rfl) (Loops.none (by kernel_rfl)) fun ds out _ hr => by obtain ⟨t, ⟨⟩⟩ := ds; exact (ev_i_Turn_vector t).trans ((q_i_Turn_vector t).trans hr)

def E_i_CrossOf : Tabs := (mkE tab [] [])
set_option maxRecDepth 4000 in
theorem ek_i_CrossOf : EnvOK Try.prog E_i_CrossOf := (mkE_ok tab_ok mixed AllF.nil AllX.nil)
theorem ev_i_CrossOf (a : dVec) (b : dVec) : evalF E_i_CrossOf noL Try.f176 [.ro true tVec, .ro true tVec] (.one true tVec) (a, b, ()) = g_i_CrossOf a b := by kernel_rfl
def m_i_CrossOf : FM := { ps := [.ro true tVec, .ro true tVec], res := .one true tVec, run := fun x => some (t_i_CrossOf x.1 x.2.1) }
set_option maxRecDepth 4000 in
theorem ok_i_CrossOf : FmOK Try.prog 176 m_i_CrossOf := @FmOK.made Try.prog E_i_CrossOf ek_i_CrossOf 176 Try.f176 noL m_i_CrossOf Try.func176 (by kernel_rfl) (Loops.none (by kernel_rfl)) fun ds out _ hr => by obtain ⟨a, b, ⟨⟩⟩ := ds; exact (ev_i_CrossOf a b).trans ((q_i_CrossOf a b).trans hr)

def E_i_ScaleVector : Tabs := (mkE tab [] [])
set_option maxRecDepth 4000 in
theorem ek_i_ScaleVector : EnvOK Try.prog E_i_ScaleVector := (mkE_ok tab_ok mixed AllF.nil AllX.nil)
theorem ev_i_ScaleVector (v : dVec) (byx : Nat) : evalF E_i_ScaleVector noL Try.f137 [.ro true tVec, .ro false (.flt .f32)] (.one true tVec) (v, byx, ()) = g_i_ScaleVector v byx := by kernel_rfl
def m_i_ScaleVector : FM := { ps := [.ro true tVec, .ro false (.flt .f32)], res := .one true tVec, run := fun x => some (t_i_ScaleVector x.1 x.2.1) }
set_option maxRecDepth 4000 in
theorem ok_i_ScaleVector : FmOK Try.prog 137 m_i_ScaleVector := @FmOK.made Try.prog E_i_ScaleVector ek_i_ScaleVector 137 Try.f137 noL m_i_ScaleVector Try.func137 (by kernel_rfl) (Loops.none (by kernel_rfl)) fun ds out _ hr => by obtain ⟨v, byx, ⟨⟩⟩ := ds; exact (ev_i_ScaleVector v byx).trans ((q_i_ScaleVector v byx).trans hr)

def E_i_AddVectors : Tabs := (mkE tab [] [])
set_option maxRecDepth 4000 in
theorem ek_i_AddVectors : EnvOK Try.prog E_i_AddVectors := (mkE_ok tab_ok mixed AllF.nil AllX.nil)
theorem ev_i_AddVectors (a : dVec) (b : dVec) : evalF E_i_AddVectors noL Try.f135 [.ro true tVec, .ro true tVec] (.one true tVec) (a, b, ()) = g_i_AddVectors a b := by kernel_rfl
def m_i_AddVectors : FM := { ps := [.ro true tVec, .ro true tVec], res := .one true tVec, run := fun x => some (t_i_AddVectors x.1 x.2.1) }
set_option maxRecDepth 4000 in
theorem ok_i_AddVectors : FmOK Try.prog 135 m_i_AddVectors := @FmOK.made Try.prog E_i_AddVectors ek_i_AddVectors 135 Try.f135 noL m_i_AddVectors Try.func135 (by kernel_rfl) (Loops.none (by kernel_rfl)) fun ds out _ hr => by obtain ⟨a, b, ⟨⟩⟩ := ds; exact (ev_i_AddVectors a b).trans ((q_i_AddVectors a b).trans hr)

def E_i_RotateBy : Tabs := (mkE tab [(175, m_i_Turn_vector), (176, m_i_CrossOf), (137, m_i_ScaleVector), (135, m_i_AddVectors)] [])
set_option maxRecDepth 4000 in
theorem ek_i_RotateBy : EnvOK Try.prog E_i_RotateBy := (mkE_ok tab_ok mixed (AllF.cons ok_i_Turn_vector (AllF.cons ok_i_CrossOf (AllF.cons ok_i_ScaleVector (AllF.cons ok_i_AddVectors AllF.nil)))) AllX.nil)
theorem ev_i_RotateBy (t : dTurn) (v : dVec) : evalF E_i_RotateBy noL Try.f136 [.ro true tTurn, .ro true tVec] (.one true tVec) (t, v, ()) = g_i_RotateBy t v := by kernel_rfl
def m_i_RotateBy : FM := { ps := [.ro true tTurn, .ro true tVec], res := .one true tVec, run := fun x => some (t_i_RotateBy x.1 x.2.1) }
set_option maxRecDepth 4000 in
theorem ok_i_RotateBy : FmOK Try.prog 136 m_i_RotateBy := @FmOK.made Try.prog E_i_RotateBy ek_i_RotateBy 136 Try.f136 noL m_i_RotateBy Try.func136 (by kernel_rfl) (Loops.none (by kernel_rfl)) fun ds out _ hr => by obtain ⟨t, v, ⟨⟩⟩ := ds; exact (ev_i_RotateBy t v).trans ((q_i_RotateBy t v).trans hr)

def E_i_Skeleton_world : Tabs := (mkE tab [(167, m_i_MulTurns), (136, m_i_RotateBy), (135, m_i_AddVectors)] [])
set_option maxRecDepth 4000 in
theorem ek_i_Skeleton_world : EnvOK Try.prog E_i_Skeleton_world := (mkE_ok tab_ok mixed (AllF.cons ok_i_MulTurns (AllF.cons ok_i_RotateBy (AllF.cons ok_i_AddVectors AllF.nil))) AllX.nil)
def lm_L_i_Skeleton_world_1 : LM := { mat := [], head := { slots := [(3, .cst (.ptr (.box 0 0))), (6, .cst (.sl (.row 1))), (7, .cst (.sl (.row 2))), (35, .dat false (.slice tRootKey)), (36, .dat false (.int .i64)), (37, .dat false (.int .i64))], blks := [.box [.dat tPose], .row false tTurn, .row false tVec] }, out := { slots := [(6, .cst (.sl (.row 1))), (7, .cst (.sl (.row 2)))], blks := [.dead, .row false tTurn, .row false tVec] }, ex := 0, rets := false, run := iter L_i_Skeleton_world_1 fuel }
def ll_i_Skeleton_world : List (Nat × LP) := [(4, .lm lm_L_i_Skeleton_world_1)]
theorem rd_L_i_Skeleton_world_1 (rec' : ((List dRootKey) × Int × Int × Unit) × ((dPose × Unit) × (List dTurn) × (List dVec) × Unit) → Option ((Unit) × ((List dTurn) × (List dVec) × Unit))) (t35 : (List dRootKey)) (t36 : Int) (t37 : Int) (b0 : dPose) (r1 : (List dTurn)) (r2 : (List dVec)) : round E_i_Skeleton_world (lookL ll_i_Skeleton_world) lm_L_i_Skeleton_world_1 78 (loopAt Try.f128 0) rec' ((t35, t36, t37, ()), ((b0, ()), r1, r2, ())) = L_i_Skeleton_world_1 rec' ((t35, t36, t37, ()), ((b0, ()), r1, r2, ())) := by kernel_rfl
theorem lo_i_Skeleton_world : Loops E_i_Skeleton_world (lookL ll_i_Skeleton_world) Try.f128 := Loops.list (by kernel_rfl) (by kernel_rfl) ⟨LoopOK.iter (step := L_i_Skeleton_world_1) (N := fun _ => fuel) (fun rec' x => by obtain ⟨⟨t35, t36, t37, ⟨⟩⟩, ⟨⟨b0, ⟨⟩⟩, r1, r2, ⟨⟩⟩⟩ := x; exact rd_L_i_Skeleton_world_1 rec' t35 t36 t37 b0 r1 r2) fun _ => rfl, trivial⟩
theorem ev_i_Skeleton_world (k : dSkel) (p : dPose) : evalF E_i_Skeleton_world (lookL ll_i_Skeleton_world) Try.f128 [.rptr tSkel, .ro true tPose] (.tup [(false, (.slice tTurn)), (false, (.slice tVec))]) (k, p, ()) = g_i_Skeleton_world k p := by kernel_rfl
def m_i_Skeleton_world : FM := { ps := [.rptr tSkel, .ro true tPose], res := .tup [(false, (.slice tTurn)), (false, (.slice tVec))], run := fun x => g_i_Skeleton_world x.1 x.2.1 }
set_option maxRecDepth 4000 in
theorem ok_i_Skeleton_world : FmOK Try.prog 128 m_i_Skeleton_world := @FmOK.made Try.prog E_i_Skeleton_world ek_i_Skeleton_world 128 Try.f128 (lookL ll_i_Skeleton_world) m_i_Skeleton_world Try.func128 (by kernel_rfl) lo_i_Skeleton_world fun ds out _ hr => by obtain ⟨k, p, ⟨⟩⟩ := ds; exact (ev_i_Skeleton_world k p).trans hr

def E_i_InverseOf : Tabs := (mkE tab [] [])
set_option maxRecDepth 4000 in
theorem ek_i_InverseOf : EnvOK Try.prog E_i_InverseOf := (mkE_ok tab_ok mixed AllF.nil AllX.nil)
theorem ev_i_InverseOf (t : dTurn) : evalF E_i_InverseOf noL Try.f168 [.ro true tTurn] (.one true tTurn) (t, ()) = g_i_InverseOf t := by kernel_rfl
def m_i_InverseOf : FM := { ps := [.ro true tTurn], res := .one true tTurn, run := fun x => some (t_i_InverseOf x.1) }
set_option maxRecDepth 4000 in
theorem ok_i_InverseOf : FmOK Try.prog 168 m_i_InverseOf := @FmOK.made Try.prog E_i_InverseOf ek_i_InverseOf 168 Try.f168 noL m_i_InverseOf Try.func168 (by kernel_rfl) (Loops.none (by kernel_rfl)) fun ds out _ hr => by obtain ⟨t, ⟨⟩⟩ := ds; exact (ev_i_InverseOf t).trans ((q_i_InverseOf t).trans hr)

def E_i_LessVectors : Tabs := (mkE tab [] [])
set_option maxRecDepth 4000 in
theorem ek_i_LessVectors : EnvOK Try.prog E_i_LessVectors := (mkE_ok tab_ok mixed AllF.nil AllX.nil)
theorem ev_i_LessVectors (a : dVec) (b : dVec) : evalF E_i_LessVectors noL Try.f130 [.ro true tVec, .ro true tVec] (.one true tVec) (a, b, ()) = g_i_LessVectors a b := by kernel_rfl
def m_i_LessVectors : FM := { ps := [.ro true tVec, .ro true tVec], res := .one true tVec, run := fun x => some (t_i_LessVectors x.1 x.2.1) }
set_option maxRecDepth 4000 in
theorem ok_i_LessVectors : FmOK Try.prog 130 m_i_LessVectors := @FmOK.made Try.prog E_i_LessVectors ek_i_LessVectors 130 Try.f130 noL m_i_LessVectors Try.func130 (by kernel_rfl) (Loops.none (by kernel_rfl)) fun ds out _ hr => by obtain ⟨a, b, ⟨⟩⟩ := ds; exact (ev_i_LessVectors a b).trans ((q_i_LessVectors a b).trans hr)

def E_i_Skeleton_moves : Tabs := (mkE tab [(128, m_i_Skeleton_world), (168, m_i_InverseOf), (167, m_i_MulTurns), (136, m_i_RotateBy), (130, m_i_LessVectors)] [])
set_option maxRecDepth 4000 in
theorem ek_i_Skeleton_moves : EnvOK Try.prog E_i_Skeleton_moves := (mkE_ok tab_ok mixed (AllF.cons ok_i_Skeleton_world (AllF.cons ok_i_InverseOf (AllF.cons ok_i_MulTurns (AllF.cons ok_i_RotateBy (AllF.cons ok_i_LessVectors AllF.nil))))) AllX.nil)
def lm_L_i_Skeleton_moves_1 : LM := { mat := [], head := { slots := [(8, .cst (.sl (.row 2))), (9, .cst (.sl (.row 3))), (10, .cst (.sl (.row 4))), (11, .cst (.sl (.row 5))), (26, .dat false (.int .i64)), (27, .dat false (.int .i64))], blks := [.dead, .dead, .row false tTurn, .row false tVec, .row false tTurn, .row false tVec] }, out := { slots := [(10, .cst (.sl (.row 4))), (11, .cst (.sl (.row 5)))], blks := [.dead, .dead, .dead, .dead, .row false tTurn, .row false tVec] }, ex := 0, rets := false, run := iter L_i_Skeleton_moves_1 fuel }
def ll_i_Skeleton_moves : List (Nat × LP) := [(4, .lm lm_L_i_Skeleton_moves_1)]
theorem rd_L_i_Skeleton_moves_1 (rec' : (Int × Int × Unit) × ((List dTurn) × (List dVec) × (List dTurn) × (List dVec) × Unit) → Option ((Unit) × ((List dTurn) × (List dVec) × Unit))) (t26 : Int) (t27 : Int) (r2 : (List dTurn)) (r3 : (List dVec)) (r4 : (List dTurn)) (r5 : (List dVec)) : round E_i_Skeleton_moves (lookL ll_i_Skeleton_moves) lm_L_i_Skeleton_moves_1 63 (loopAt Try.f122 0) rec' ((t26, t27, ()), (r2, r3, r4, r5, ())) = L_i_Skeleton_moves_1 rec' ((t26, t27, ()), (r2, r3, r4, r5, ())) := by kernel_rfl
theorem lo_i_Skeleton_moves : Loops E_i_Skeleton_moves (lookL ll_i_Skeleton_moves) Try.f122 := Loops.list (by kernel_rfl) (by kernel_rfl) ⟨LoopOK.iter (step := L_i_Skeleton_moves_1) (N := fun _ => fuel) (fun rec' x => by obtain ⟨⟨t26, t27, ⟨⟩⟩, ⟨r2, r3, r4, r5, ⟨⟩⟩⟩ := x; exact rd_L_i_Skeleton_moves_1 rec' t26 t27 r2 r3 r4 r5) fun _ => rfl, trivial⟩
theorem ev_i_Skeleton_moves (k : dSkel) (rest : dPose) (p : dPose) : evalF E_i_Skeleton_moves (lookL ll_i_Skeleton_moves) Try.f122 [.rptr tSkel, .ro true tPose, .ro true tPose] (.tup [(false, (.slice tTurn)), (false, (.slice tVec))]) (k, rest, p, ()) = g_i_Skeleton_moves k rest p := by kernel_rfl
def m_i_Skeleton_moves : FM := { ps := [.rptr tSkel, .ro true tPose, .ro true tPose], res := .tup [(false, (.slice tTurn)), (false, (.slice tVec))], run := fun x => g_i_Skeleton_moves x.1 x.2.1 x.2.2.1 }
set_option maxRecDepth 4000 in
theorem ok_i_Skeleton_moves : FmOK Try.prog 122 m_i_Skeleton_moves := @FmOK.made Try.prog E_i_Skeleton_moves ek_i_Skeleton_moves 122 Try.f122 (lookL ll_i_Skeleton_moves) m_i_Skeleton_moves Try.func122 (by kernel_rfl) lo_i_Skeleton_moves fun ds out _ hr => by obtain ⟨k, rest, p, ⟨⟩⟩ := ds; exact (ev_i_Skeleton_moves k rest p).trans hr

def E_i_InnerOfTurns : Tabs := (mkE tab [] [])
set_option maxRecDepth 4000 in
theorem ek_i_InnerOfTurns : EnvOK Try.prog E_i_InnerOfTurns := (mkE_ok tab_ok mixed AllF.nil AllX.nil)
theorem ev_i_InnerOfTurns (a : dTurn) (b : dTurn) : evalF E_i_InnerOfTurns noL Try.f180 [.ro true tTurn, .ro true tTurn] (.one false (.flt .f32)) (a, b, ()) = g_i_InnerOfTurns a b := by kernel_rfl
def m_i_InnerOfTurns : FM := { ps := [.ro true tTurn, .ro true tTurn], res := .one false (.flt .f32), run := fun x => some (t_i_InnerOfTurns x.1 x.2.1) }
set_option maxRecDepth 4000 in
theorem ok_i_InnerOfTurns : FmOK Try.prog 180 m_i_InnerOfTurns := @FmOK.made Try.prog E_i_InnerOfTurns ek_i_InnerOfTurns 180 Try.f180 noL m_i_InnerOfTurns Try.func180 (by kernel_rfl) (Loops.none (by kernel_rfl)) fun ds out _ hr => by obtain ⟨a, b, ⟨⟩⟩ := ds; exact (ev_i_InnerOfTurns a b).trans ((q_i_InnerOfTurns a b).trans hr)

def E_i_Turn_opposite : Tabs := (mkE tab [] [])
set_option maxRecDepth 4000 in
theorem ek_i_Turn_opposite : EnvOK Try.prog E_i_Turn_opposite := (mkE_ok tab_ok mixed AllF.nil AllX.nil)
theorem ev_i_Turn_opposite (t : dTurn) : evalF E_i_Turn_opposite noL Try.f181 [.ro true tTurn] (.one true tTurn) (t, ()) = g_i_Turn_opposite t := by kernel_rfl
def m_i_Turn_opposite : FM := { ps := [.ro true tTurn], res := .one true tTurn, run := fun x => some (t_i_Turn_opposite x.1) }
set_option maxRecDepth 4000 in
theorem ok_i_Turn_opposite : FmOK Try.prog 181 m_i_Turn_opposite := @FmOK.made Try.prog E_i_Turn_opposite ek_i_Turn_opposite 181 Try.f181 noL m_i_Turn_opposite Try.func181 (by kernel_rfl) (Loops.none (by kernel_rfl)) fun ds out _ hr => by obtain ⟨t, ⟨⟩⟩ := ds; exact (ev_i_Turn_opposite t).trans ((q_i_Turn_opposite t).trans hr)

def E_i_RootNumber : Tabs := (mkE tab [(191, m_math_Sqrt)] [])
set_option maxRecDepth 4000 in
theorem ek_i_RootNumber : EnvOK Try.prog E_i_RootNumber := (mkE_ok tab_ok mixed (AllF.cons ok_math_Sqrt AllF.nil) AllX.nil)
theorem ev_i_RootNumber (xx : Nat) : evalF E_i_RootNumber noL Try.f171 [.ro false (.flt .f32)] (.one false (.flt .f32)) (xx, ()) = g_i_RootNumber xx := by kernel_rfl
def m_i_RootNumber : FM := { ps := [.ro false (.flt .f32)], res := .one false (.flt .f32), run := fun x => g_i_RootNumber x.1 }
set_option maxRecDepth 4000 in
theorem ok_i_RootNumber : FmOK Try.prog 171 m_i_RootNumber := @FmOK.made Try.prog E_i_RootNumber ek_i_RootNumber 171 Try.f171 noL m_i_RootNumber Try.func171 (by kernel_rfl) (Loops.none (by kernel_rfl)) fun ds out _ hr => by obtain ⟨xx, ⟨⟩⟩ := ds; exact (ev_i_RootNumber xx).trans hr

def E_i_LengthOfTurn : Tabs := (mkE tab [(180, m_i_InnerOfTurns), (171, m_i_RootNumber)] [])
set_option maxRecDepth 4000 in
theorem ek_i_LengthOfTurn : EnvOK Try.prog E_i_LengthOfTurn := (mkE_ok tab_ok mixed (AllF.cons ok_i_InnerOfTurns (AllF.cons ok_i_RootNumber AllF.nil)) AllX.nil)
theorem ev_i_LengthOfTurn (t : dTurn) : evalF E_i_LengthOfTurn noL Try.f193 [.ro true tTurn] (.one false (.flt .f32)) (t, ()) = g_i_LengthOfTurn t := by kernel_rfl
def m_i_LengthOfTurn : FM := { ps := [.ro true tTurn], res := .one false (.flt .f32), run := fun x => g_i_LengthOfTurn x.1 }
set_option maxRecDepth 4000 in
theorem ok_i_LengthOfTurn : FmOK Try.prog 193 m_i_LengthOfTurn := @FmOK.made Try.prog E_i_LengthOfTurn ek_i_LengthOfTurn 193 Try.f193 noL m_i_LengthOfTurn Try.func193 (by kernel_rfl) (Loops.none (by kernel_rfl)) fun ds out _ hr => by obtain ⟨t, ⟨⟩⟩ := ds; exact (ev_i_LengthOfTurn t).trans hr

def E_i_IsFinite : Tabs := (mkE tab [] [])
set_option maxRecDepth 4000 in
theorem ek_i_IsFinite : EnvOK Try.prog E_i_IsFinite := (mkE_ok tab_ok mixed AllF.nil AllX.nil)
theorem ev_i_IsFinite (xx : Nat) : evalF E_i_IsFinite noL Try.f161 [.ro false (.flt .f32)] (.one false .bool) (xx, ()) = g_i_IsFinite xx := by kernel_rfl
def m_i_IsFinite : FM := { ps := [.ro false (.flt .f32)], res := .one false .bool, run := fun x => some (t_i_IsFinite x.1) }
set_option maxRecDepth 4000 in
theorem ok_i_IsFinite : FmOK Try.prog 161 m_i_IsFinite := @FmOK.made Try.prog E_i_IsFinite ek_i_IsFinite 161 Try.f161 noL m_i_IsFinite Try.func161 (by kernel_rfl) (Loops.none (by kernel_rfl)) fun ds out _ hr => by obtain ⟨xx, ⟨⟩⟩ := ds; exact (ev_i_IsFinite xx).trans ((q_i_IsFinite xx).trans hr)

def E_i_isLength : Tabs := (mkE tab [(161, m_i_IsFinite)] [])
set_option maxRecDepth 4000 in
theorem ek_i_isLength : EnvOK Try.prog E_i_isLength := (mkE_ok tab_ok mixed (AllF.cons ok_i_IsFinite AllF.nil) AllX.nil)
theorem ev_i_isLength (n : Nat) : evalF E_i_isLength noL Try.f108 [.ro false (.flt .f32)] (.one false .bool) (n, ()) = g_i_isLength n := by kernel_rfl
def m_i_isLength : FM := { ps := [.ro false (.flt .f32)], res := .one false .bool, run := fun x => some (t_i_isLength x.1) }
set_option maxRecDepth 4000 in
theorem ok_i_isLength : FmOK Try.prog 108 m_i_isLength := @FmOK.made Try.prog E_i_isLength ek_i_isLength 108 Try.f108 noL m_i_isLength Try.func108 (by kernel_rfl) (Loops.none (by kernel_rfl)) fun ds out _ hr => by obtain ⟨n, ⟨⟩⟩ := ds; exact (ev_i_isLength n).trans ((q_i_isLength n).trans hr)

def E_i_NoTurn : Tabs := (mkE tab [] [])
set_option maxRecDepth 4000 in
theorem ek_i_NoTurn : EnvOK Try.prog E_i_NoTurn := (mkE_ok tab_ok mixed AllF.nil AllX.nil)
theorem ev_i_NoTurn  : evalF E_i_NoTurn noL Try.f194 [] (.one true tTurn) (()) = g_i_NoTurn  := by kernel_rfl
def m_i_NoTurn : FM := { ps := [], res := .one true tTurn, run := fun x => some (t_i_NoTurn ) }
set_option maxRecDepth 4000 in
theorem ok_i_NoTurn : FmOK Try.prog 194 m_i_NoTurn := @FmOK.made Try.prog E_i_NoTurn ek_i_NoTurn 194 Try.f194 noL m_i_NoTurn Try.func194 (by kernel_rfl) (Loops.none (by kernel_rfl)) fun ds out _ hr => by obtain ⟨⟨⟩⟩ := ds; exact (ev_i_NoTurn ).trans ((q_i_NoTurn ).trans hr)

def E_i_MendTurn : Tabs := (mkE tab [(193, m_i_LengthOfTurn), (108, m_i_isLength), (194, m_i_NoTurn)] [])
set_option maxRecDepth 4000 in
theorem ek_i_MendTurn : EnvOK Try.prog E_i_MendTurn := (mkE_ok tab_ok mixed (AllF.cons ok_i_LengthOfTurn (AllF.cons ok_i_isLength (AllF.cons ok_i_NoTurn AllF.nil))) AllX.nil)
theorem ev_i_MendTurn (t : dTurn) : evalF E_i_MendTurn noL Try.f182 [.ro true tTurn] (.one true tTurn) (t, ()) = g_i_MendTurn t := by kernel_rfl
def m_i_MendTurn : FM := { ps := [.ro true tTurn], res := .one true tTurn, run := fun x => g_i_MendTurn x.1 }
set_option maxRecDepth 4000 in
theorem ok_i_MendTurn : FmOK Try.prog 182 m_i_MendTurn := @FmOK.made Try.prog E_i_MendTurn ek_i_MendTurn 182 Try.f182 noL m_i_MendTurn Try.func182 (by kernel_rfl) (Loops.none (by kernel_rfl)) fun ds out _ hr => by obtain ⟨t, ⟨⟩⟩ := ds; exact (ev_i_MendTurn t).trans hr

def E_i_mixTurns : Tabs := (mkE tab [(180, m_i_InnerOfTurns), (181, m_i_Turn_opposite), (182, m_i_MendTurn)] [])
set_option maxRecDepth 4000 in
theorem ek_i_mixTurns : EnvOK Try.prog E_i_mixTurns := (mkE_ok tab_ok mixed (AllF.cons ok_i_InnerOfTurns (AllF.cons ok_i_Turn_opposite (AllF.cons ok_i_MendTurn AllF.nil))) AllX.nil)
def lm_L_i_mixTurns_1 : LM := { mat := [], head := { slots := [(0, .dat false (.slice tTurn)), (1, .dat false (.slice (.flt .f32))), (4, .cst (.ptr (.box 0 0))), (5, .cst (.ptr (.box 1 0))), (9, .dat false (.slice tTurn)), (10, .dat false (.int .i64)), (11, .dat false (.int .i64))], blks := [.box [.dat tTurn], .box [.dat tTurn]] }, out := { slots := [(4, .cst (.ptr (.box 0 0))), (5, .cst (.ptr (.box 1 0)))], blks := [.box [.dat tTurn], .box [.dat tTurn]] }, ex := 0, rets := false, run := iter L_i_mixTurns_1 fuel }
def ll_i_mixTurns : List (Nat × LP) := [(3, .lm lm_L_i_mixTurns_1)]
theorem rd_L_i_mixTurns_1 (rec' : ((List dTurn) × (List Nat) × (List dTurn) × Int × Int × Unit) × ((dTurn × Unit) × (dTurn × Unit) × Unit) → Option ((Unit) × ((dTurn × Unit) × (dTurn × Unit) × Unit))) (list : (List dTurn)) (weights : (List Nat)) (t9 : (List dTurn)) (t10 : Int) (t11 : Int) (b0 : dTurn) (b1 : dTurn) : round E_i_mixTurns (lookL ll_i_mixTurns) lm_L_i_mixTurns_1 60 (loopAt Try.f139 0) rec' ((list, weights, t9, t10, t11, ()), ((b0, ()), (b1, ()), ())) = L_i_mixTurns_1 rec' ((list, weights, t9, t10, t11, ()), ((b0, ()), (b1, ()), ())) := by kernel_rfl
theorem lo_i_mixTurns : Loops E_i_mixTurns (lookL ll_i_mixTurns) Try.f139 := Loops.list (by kernel_rfl) (by kernel_rfl) ⟨LoopOK.iter (step := L_i_mixTurns_1) (N := fun _ => fuel) (fun rec' x => by obtain ⟨⟨list, weights, t9, t10, t11, ⟨⟩⟩, ⟨⟨b0, ⟨⟩⟩, ⟨b1, ⟨⟩⟩, ⟨⟩⟩⟩ := x; exact rd_L_i_mixTurns_1 rec' list weights t9 t10 t11 b0 b1) fun _ => rfl, trivial⟩
theorem ev_i_mixTurns (list : (List dTurn)) (weights : (List Nat)) : evalF E_i_mixTurns (lookL ll_i_mixTurns) Try.f139 [.ro false (.slice tTurn), .ro false (.slice (.flt .f32))] (.one true tTurn) (list, weights, ()) = g_i_mixTurns list weights := by kernel_rfl
def m_i_mixTurns : FM := { ps := [.ro false (.slice tTurn), .ro false (.slice (.flt .f32))], res := .one true tTurn, run := fun x => g_i_mixTurns x.1 x.2.1 }
set_option maxRecDepth 4000 in
theorem ok_i_mixTurns : FmOK Try.prog 139 m_i_mixTurns := @FmOK.made Try.prog E_i_mixTurns ek_i_mixTurns 139 Try.f139 (lookL ll_i_mixTurns) m_i_mixTurns Try.func139 (by kernel_rfl) lo_i_mixTurns fun ds out _ hr => by obtain ⟨list, weights, ⟨⟩⟩ := ds; exact (ev_i_mixTurns list weights).trans hr

def E_i_SkinMixed : Tabs := (mkE tab [(134, m_i_canSkin), (122, m_i_Skeleton_moves), (137, m_i_ScaleVector), (135, m_i_AddVectors), (139, m_i_mixTurns), (136, m_i_RotateBy)] [])
set_option maxRecDepth 4000 in
theorem ek_i_SkinMixed : EnvOK Try.prog E_i_SkinMixed := (mkE_ok tab_ok mixed (AllF.cons ok_i_canSkin (AllF.cons ok_i_Skeleton_moves (AllF.cons ok_i_ScaleVector (AllF.cons ok_i_AddVectors (AllF.cons ok_i_mixTurns (AllF.cons ok_i_RotateBy AllF.nil)))))) AllX.nil)
def lm_L_i_SkinMixed_2 : LM := { mat := [], head := { slots := [(10, .cst (.sl (.row 3))), (11, .cst (.sl (.row 4))), (12, .cst (.sl (.row 5))), (14, .cst (.ptr (.box 6 0))), (15, .cst (.ptr (.box 7 0))), (16, .cst (.sl (.row 8))), (31, .dat false (.slice tSkinPoint)), (32, .dat false (.int .i64)), (33, .dat false (.int .i64)), (42, .dat false (.slice (.int .i64))), (43, .dat false (.int .i64)), (44, .dat false (.int .i64))], blks := [.dead, .dead, .dead, .row false tTurn, .row false tVec, .row false tVec, .box [.dat tSkinPoint], .box [.dat tVec], .row false tTurn] }, out := { slots := [(10, .cst (.sl (.row 3))), (11, .cst (.sl (.row 4))), (12, .cst (.sl (.row 5))), (14, .cst (.ptr (.box 6 0))), (15, .cst (.ptr (.box 7 0))), (16, .cst (.sl (.row 8))), (31, .dat false (.slice tSkinPoint)), (32, .dat false (.int .i64)), (33, .dat false (.int .i64))], blks := [.dead, .dead, .dead, .row false tTurn, .row false tVec, .row false tVec, .box [.dat tSkinPoint], .box [.dat tVec], .row false tTurn] }, ex := 2, rets := false, run := iter L_i_SkinMixed_2 fuel }
def lm_L_i_SkinMixed_1 : LM := { mat := [.slot 12 tVec], head := { slots := [(10, .cst (.sl (.row 3))), (11, .cst (.sl (.row 4))), (12, .cst (.sl (.row 5))), (31, .dat false (.slice tSkinPoint)), (32, .dat false (.int .i64)), (33, .dat false (.int .i64))], blks := [.dead, .dead, .dead, .row false tTurn, .row false tVec, .row false tVec] }, out := { slots := [(12, .cst (.sl (.row 5)))], blks := [.dead, .dead, .dead, .dead, .dead, .row false tVec] }, ex := 0, rets := false, run := iter L_i_SkinMixed_1 fuel }
def ll_i_SkinMixed : List (Nat × LP) := [(6, .lm lm_L_i_SkinMixed_1), (11, .lm lm_L_i_SkinMixed_2)]
theorem rd_L_i_SkinMixed_2 (rec' : ((List dSkinPoint) × Int × Int × (List Int) × Int × Int × Unit) × ((List dTurn) × (List dVec) × (List dVec) × (dSkinPoint × Unit) × (dVec × Unit) × (List dTurn) × Unit) → Option (((List dSkinPoint) × Int × Int × Unit) × ((List dTurn) × (List dVec) × (List dVec) × (dSkinPoint × Unit) × (dVec × Unit) × (List dTurn) × Unit))) (t31 : (List dSkinPoint)) (t32 : Int) (t33 : Int) (t42 : (List Int)) (t43 : Int) (t44 : Int) (r3 : (List dTurn)) (r4 : (List dVec)) (r5 : (List dVec)) (b6 : dSkinPoint) (b7 : dVec) (r8 : (List dTurn)) : round E_i_SkinMixed (lookL ll_i_SkinMixed) lm_L_i_SkinMixed_2 83 (loopAt Try.f58 1) rec' ((t31, t32, t33, t42, t43, t44, ()), (r3, r4, r5, (b6, ()), (b7, ()), r8, ())) = L_i_SkinMixed_2 rec' ((t31, t32, t33, t42, t43, t44, ()), (r3, r4, r5, (b6, ()), (b7, ()), r8, ())) := by kernel_rfl
theorem rd_L_i_SkinMixed_1 (rec' : ((List dSkinPoint) × Int × Int × Unit) × ((List dTurn) × (List dVec) × (List dVec) × Unit) → Option ((Unit) × ((List dVec) × Unit))) (t31 : (List dSkinPoint)) (t32 : Int) (t33 : Int) (r3 : (List dTurn)) (r4 : (List dVec)) (r5 : (List dVec)) : round E_i_SkinMixed (lookL ll_i_SkinMixed) lm_L_i_SkinMixed_1 83 (loopAt Try.f58 0) rec' ((t31, t32, t33, ()), (r3, r4, r5, ())) = L_i_SkinMixed_1 rec' ((t31, t32, t33, ()), (r3, r4, r5, ())) := by kernel_rfl
theorem lo_i_SkinMixed : Loops E_i_SkinMixed (lookL ll_i_SkinMixed) Try.f58 := Loops.list (by kernel_rfl) (by kernel_rfl) ⟨LoopOK.iter (step := L_i_SkinMixed_1) (N := fun _ => fuel) (fun rec' x => by obtain ⟨⟨t31, t32, t33, ⟨⟩⟩, ⟨r3, r4, r5, ⟨⟩⟩⟩ := x; exact rd_L_i_SkinMixed_1 rec' t31 t32 t33 r3 r4 r5) fun _ => rfl, LoopOK.iter (step := L_i_SkinMixed_2) (N := fun _ => fuel) (fun rec' x => by obtain ⟨⟨t31, t32, t33, t42, t43, t44, ⟨⟩⟩, ⟨r3, r4, r5, ⟨b6, ⟨⟩⟩, ⟨b7, ⟨⟩⟩, r8, ⟨⟩⟩⟩ := x; exact rd_L_i_SkinMixed_2 rec' t31 t32 t33 t42 t43 t44 r3 r4 r5 b6 b7 r8) fun _ => rfl, trivial⟩
theorem ev_i_SkinMixed (k : dSkel) (rest : dPose) (p : dPose) (points : (List dSkinPoint)) : evalF E_i_SkinMixed (lookL ll_i_SkinMixed) Try.f58 [.ro true tSkel, .ro true tPose, .ro true tPose, .ro false (.slice tSkinPoint)] (.tup [(false, (.slice tVec)), (false, .bool)]) (k, rest, p, points, ()) = g_i_SkinMixed k rest p points := by kernel_rfl
def m_i_SkinMixed : FM := { ps := [.ro true tSkel, .ro true tPose, .ro true tPose, .ro false (.slice tSkinPoint)], res := .tup [(false, (.slice tVec)), (false, .bool)], run := fun x => g_i_SkinMixed x.1 x.2.1 x.2.2.1 x.2.2.2.1 }
set_option maxRecDepth 4000 in
theorem ok_i_SkinMixed : FmOK Try.prog 58 m_i_SkinMixed := @FmOK.made Try.prog E_i_SkinMixed ek_i_SkinMixed 58 Try.f58 (lookL ll_i_SkinMixed) m_i_SkinMixed Try.func58 (by kernel_rfl) lo_i_SkinMixed fun ds out _ hr => by obtain ⟨k, rest, p, points, ⟨⟩⟩ := ds; exact (ev_i_SkinMixed k rest p points).trans hr

def E_w_sameFloat : Tabs := (mkE tab [] [])
set_option maxRecDepth 4000 in
theorem ek_w_sameFloat : EnvOK Try.prog E_w_sameFloat := (mkE_ok tab_ok mixed AllF.nil AllX.nil)
theorem ev_w_sameFloat (a : Nat) (b : Nat) : evalF E_w_sameFloat noL Try.f37 [.ro false (.flt .f64), .ro false (.flt .f64)] (.one false .bool) (a, b, ()) = g_w_sameFloat a b := by kernel_rfl
def m_w_sameFloat : FM := { ps := [.ro false (.flt .f64), .ro false (.flt .f64)], res := .one false .bool, run := fun x => some (t_w_sameFloat x.1 x.2.1) }
set_option maxRecDepth 4000 in
theorem ok_w_sameFloat : FmOK Try.prog 37 m_w_sameFloat := @FmOK.made Try.prog E_w_sameFloat ek_w_sameFloat 37 Try.f37 noL m_w_sameFloat Try.func37 (by kernel_rfl) (Loops.none (by kernel_rfl)) fun ds out _ hr => by obtain ⟨a, b, ⟨⟩⟩ := ds; exact (ev_w_sameFloat a b).trans ((q_w_sameFloat a b).trans hr)

def E_w_eqVector : Tabs := (mkE tab [(37, m_w_sameFloat)] [])
set_option maxRecDepth 4000 in
theorem ek_w_eqVector : EnvOK Try.prog E_w_eqVector := (mkE_ok tab_ok mixed (AllF.cons ok_w_sameFloat AllF.nil) AllX.nil)
theorem ev_w_eqVector (a : dVec) (b : dVec) : evalF E_w_eqVector noL Try.f90 [.ro true tVec, .ro true tVec] (.one false .bool) (a, b, ()) = g_w_eqVector a b := by kernel_rfl
def m_w_eqVector : FM := { ps := [.ro true tVec, .ro true tVec], res := .one false .bool, run := fun x => some (t_w_eqVector x.1 x.2.1) }
set_option maxRecDepth 4000 in
theorem ok_w_eqVector : FmOK Try.prog 90 m_w_eqVector := @FmOK.made Try.prog E_w_eqVector ek_w_eqVector 90 Try.f90 noL m_w_eqVector Try.func90 (by kernel_rfl) (Loops.none (by kernel_rfl)) fun ds out _ hr => by obtain ⟨a, b, ⟨⟩⟩ := ds; exact (ev_w_eqVector a b).trans ((q_w_eqVector a b).trans hr)

def E_w_eqVectorS : Tabs := (mkE tab [(90, m_w_eqVector)] [])
set_option maxRecDepth 4000 in
theorem ek_w_eqVectorS : EnvOK Try.prog E_w_eqVectorS := (mkE_ok tab_ok mixed (AllF.cons ok_w_eqVector AllF.nil) AllX.nil)
def lm_L_w_eqVectorS_1 : LM := { mat := [], head := { slots := [(0, .dat false (.slice tVec)), (1, .dat false (.slice tVec)), (4, .dat false .bool), (5, .dat false (.int .i64))], blks := [] }, out := { slots := [(4, .dat false .bool)], blks := [] }, ex := 0, rets := true, run := iter L_w_eqVectorS_1 fuel }
def ll_w_eqVectorS : List (Nat × LP) := [(4, .lm lm_L_w_eqVectorS_1)]
theorem rd_L_w_eqVectorS_1 (rec' : ((List dVec) × (List dVec) × Bool × Int × Unit) × (Unit) → Option (Bool × ((Bool × Unit) × (Unit)))) (a : (List dVec)) (b : (List dVec)) (t4 : Bool) (i : Int) : round E_w_eqVectorS (lookL ll_w_eqVectorS) lm_L_w_eqVectorS_1 27 (loopAt Try.f43 0) rec' ((a, b, t4, i, ()), (())) = L_w_eqVectorS_1 rec' ((a, b, t4, i, ()), (())) := by kernel_rfl
theorem lo_w_eqVectorS : Loops E_w_eqVectorS (lookL ll_w_eqVectorS) Try.f43 := Loops.list (by kernel_rfl) (by kernel_rfl) ⟨LoopOK.iter (step := L_w_eqVectorS_1) (N := fun _ => fuel) (fun rec' x => by obtain ⟨⟨a, b, t4, i, ⟨⟩⟩, ⟨⟨⟩⟩⟩ := x; exact rd_L_w_eqVectorS_1 rec' a b t4 i) fun _ => rfl, trivial⟩
theorem ev_w_eqVectorS (a : (List dVec)) (b : (List dVec)) : evalF E_w_eqVectorS (lookL ll_w_eqVectorS) Try.f43 [.ro false (.slice tVec), .ro false (.slice tVec)] (.one false .bool) (a, b, ()) = g_w_eqVectorS a b := by kernel_rfl
def m_w_eqVectorS : FM := { ps := [.ro false (.slice tVec), .ro false (.slice tVec)], res := .one false .bool, run := fun x => g_w_eqVectorS x.1 x.2.1 }
set_option maxRecDepth 4000 in
theorem ok_w_eqVectorS : FmOK Try.prog 43 m_w_eqVectorS := @FmOK.made Try.prog E_w_eqVectorS ek_w_eqVectorS 43 Try.f43 (lookL ll_w_eqVectorS) m_w_eqVectorS Try.func43 (by kernel_rfl) lo_w_eqVectorS fun ds out _ hr => by obtain ⟨a, b, ⟨⟩⟩ := ds; exact (ev_w_eqVectorS a b).trans hr

def E_w_eqBone : Tabs := (mkE tab [(90, m_w_eqVector)] [])
set_option maxRecDepth 4000 in
theorem ek_w_eqBone : EnvOK Try.prog E_w_eqBone := (mkE_ok tab_ok mixed (AllF.cons ok_w_eqVector AllF.nil) AllX.nil)
theorem ev_w_eqBone (a : dRootKey) (b : dRootKey) : evalF E_w_eqBone noL Try.f159 [.ro true tRootKey, .ro true tRootKey] (.one false .bool) (a, b, ()) = g_w_eqBone a b := by kernel_rfl
def m_w_eqBone : FM := { ps := [.ro true tRootKey, .ro true tRootKey], res := .one false .bool, run := fun x => some (t_w_eqBone x.1 x.2.1) }
set_option maxRecDepth 4000 in
theorem ok_w_eqBone : FmOK Try.prog 159 m_w_eqBone := @FmOK.made Try.prog E_w_eqBone ek_w_eqBone 159 Try.f159 noL m_w_eqBone Try.func159 (by kernel_rfl) (Loops.none (by kernel_rfl)) fun ds out _ hr => by obtain ⟨a, b, ⟨⟩⟩ := ds; exact (ev_w_eqBone a b).trans ((q_w_eqBone a b).trans hr)

def E_w_eqBoneS : Tabs := (mkE tab [(159, m_w_eqBone)] [])
set_option maxRecDepth 4000 in
theorem ek_w_eqBoneS : EnvOK Try.prog E_w_eqBoneS := (mkE_ok tab_ok mixed (AllF.cons ok_w_eqBone AllF.nil) AllX.nil)
def lm_L_w_eqBoneS_1 : LM := { mat := [], head := { slots := [(0, .dat false (.slice tRootKey)), (1, .dat false (.slice tRootKey)), (4, .dat false .bool), (5, .dat false (.int .i64))], blks := [] }, out := { slots := [(4, .dat false .bool)], blks := [] }, ex := 0, rets := true, run := iter L_w_eqBoneS_1 fuel }
def ll_w_eqBoneS : List (Nat × LP) := [(4, .lm lm_L_w_eqBoneS_1)]
theorem rd_L_w_eqBoneS_1 (rec' : ((List dRootKey) × (List dRootKey) × Bool × Int × Unit) × (Unit) → Option (Bool × ((Bool × Unit) × (Unit)))) (a : (List dRootKey)) (b : (List dRootKey)) (t4 : Bool) (i : Int) : round E_w_eqBoneS (lookL ll_w_eqBoneS) lm_L_w_eqBoneS_1 27 (loopAt Try.f99 0) rec' ((a, b, t4, i, ()), (())) = L_w_eqBoneS_1 rec' ((a, b, t4, i, ()), (())) := by kernel_rfl
theorem lo_w_eqBoneS : Loops E_w_eqBoneS (lookL ll_w_eqBoneS) Try.f99 := Loops.list (by kernel_rfl) (by kernel_rfl) ⟨LoopOK.iter (step := L_w_eqBoneS_1) (N := fun _ => fuel) (fun rec' x => by obtain ⟨⟨a, b, t4, i, ⟨⟩⟩, ⟨⟨⟩⟩⟩ := x; exact rd_L_w_eqBoneS_1 rec' a b t4 i) fun _ => rfl, trivial⟩
theorem ev_w_eqBoneS (a : (List dRootKey)) (b : (List dRootKey)) : evalF E_w_eqBoneS (lookL ll_w_eqBoneS) Try.f99 [.ro false (.slice tRootKey), .ro false (.slice tRootKey)] (.one false .bool) (a, b, ()) = g_w_eqBoneS a b := by kernel_rfl
def m_w_eqBoneS : FM := { ps := [.ro false (.slice tRootKey), .ro false (.slice tRootKey)], res := .one false .bool, run := fun x => g_w_eqBoneS x.1 x.2.1 }
set_option maxRecDepth 4000 in
theorem ok_w_eqBoneS : FmOK Try.prog 99 m_w_eqBoneS := @FmOK.made Try.prog E_w_eqBoneS ek_w_eqBoneS 99 Try.f99 (lookL ll_w_eqBoneS) m_w_eqBoneS Try.func99 (by kernel_rfl) lo_w_eqBoneS fun ds out _ hr => by obtain ⟨a, b, ⟨⟩⟩ := ds; exact (ev_w_eqBoneS a b).trans hr

def E_w_eqSkeleton : Tabs := (mkE tab [(99, m_w_eqBoneS)] [])
set_option maxRecDepth 4000 in
theorem ek_w_eqSkeleton : EnvOK Try.prog E_w_eqSkeleton := (mkE_ok tab_ok mixed (AllF.cons ok_w_eqBoneS AllF.nil) AllX.nil)
theorem ev_w_eqSkeleton (a : dSkel) (b : dSkel) : evalF E_w_eqSkeleton noL Try.f29 [.ro true tSkel, .ro true tSkel] (.one false .bool) (a, b, ()) = g_w_eqSkeleton a b := by kernel_rfl
def m_w_eqSkeleton : FM := { ps := [.ro true tSkel, .ro true tSkel], res := .one false .bool, run := fun x => g_w_eqSkeleton x.1 x.2.1 }
set_option maxRecDepth 4000 in
theorem ok_w_eqSkeleton : FmOK Try.prog 29 m_w_eqSkeleton := @FmOK.made Try.prog E_w_eqSkeleton ek_w_eqSkeleton 29 Try.f29 noL m_w_eqSkeleton Try.func29 (by kernel_rfl) (Loops.none (by kernel_rfl)) fun ds out _ hr => by obtain ⟨a, b, ⟨⟩⟩ := ds; exact (ev_w_eqSkeleton a b).trans hr

def E_w_eqTurn : Tabs := (mkE tab [(37, m_w_sameFloat)] [])
set_option maxRecDepth 4000 in
theorem ek_w_eqTurn : EnvOK Try.prog E_w_eqTurn := (mkE_ok tab_ok mixed (AllF.cons ok_w_sameFloat AllF.nil) AllX.nil)
theorem ev_w_eqTurn (a : dTurn) (b : dTurn) : evalF E_w_eqTurn noL Try.f123 [.ro true tTurn, .ro true tTurn] (.one false .bool) (a, b, ()) = g_w_eqTurn a b := by kernel_rfl
def m_w_eqTurn : FM := { ps := [.ro true tTurn, .ro true tTurn], res := .one false .bool, run := fun x => some (t_w_eqTurn x.1 x.2.1) }
set_option maxRecDepth 4000 in
theorem ok_w_eqTurn : FmOK Try.prog 123 m_w_eqTurn := @FmOK.made Try.prog E_w_eqTurn ek_w_eqTurn 123 Try.f123 noL m_w_eqTurn Try.func123 (by kernel_rfl) (Loops.none (by kernel_rfl)) fun ds out _ hr => by obtain ⟨a, b, ⟨⟩⟩ := ds; exact (ev_w_eqTurn a b).trans ((q_w_eqTurn a b).trans hr)

def E_w_eqTurnS : Tabs := (mkE tab [(123, m_w_eqTurn)] [])
set_option maxRecDepth 4000 in
theorem ek_w_eqTurnS : EnvOK Try.prog E_w_eqTurnS := (mkE_ok tab_ok mixed (AllF.cons ok_w_eqTurn AllF.nil) AllX.nil)
def lm_L_w_eqTurnS_1 : LM := { mat := [], head := { slots := [(0, .dat false (.slice tTurn)), (1, .dat false (.slice tTurn)), (4, .dat false .bool), (5, .dat false (.int .i64))], blks := [] }, out := { slots := [(4, .dat false .bool)], blks := [] }, ex := 0, rets := true, run := iter L_w_eqTurnS_1 fuel }
def ll_w_eqTurnS : List (Nat × LP) := [(4, .lm lm_L_w_eqTurnS_1)]
theorem rd_L_w_eqTurnS_1 (rec' : ((List dTurn) × (List dTurn) × Bool × Int × Unit) × (Unit) → Option (Bool × ((Bool × Unit) × (Unit)))) (a : (List dTurn)) (b : (List dTurn)) (t4 : Bool) (i : Int) : round E_w_eqTurnS (lookL ll_w_eqTurnS) lm_L_w_eqTurnS_1 27 (loopAt Try.f42 0) rec' ((a, b, t4, i, ()), (())) = L_w_eqTurnS_1 rec' ((a, b, t4, i, ()), (())) := by kernel_rfl
theorem lo_w_eqTurnS : Loops E_w_eqTurnS (lookL ll_w_eqTurnS) Try.f42 := Loops.list (by kernel_rfl) (by kernel_rfl) ⟨LoopOK.iter (step := L_w_eqTurnS_1) (N := fun _ => fuel) (fun rec' x => by obtain ⟨⟨a, b, t4, i, ⟨⟩⟩, ⟨⟨⟩⟩⟩ := x; exact rd_L_w_eqTurnS_1 rec' a b t4 i) fun _ => rfl, trivial⟩
theorem ev_w_eqTurnS (a : (List dTurn)) (b : (List dTurn)) : evalF E_w_eqTurnS (lookL ll_w_eqTurnS) Try.f42 [.ro false (.slice tTurn), .ro false (.slice tTurn)] (.one false .bool) (a, b, ()) = g_w_eqTurnS a b := by kernel_rfl
def m_w_eqTurnS : FM := { ps := [.ro false (.slice tTurn), .ro false (.slice tTurn)], res := .one false .bool, run := fun x => g_w_eqTurnS x.1 x.2.1 }
set_option maxRecDepth 4000 in
theorem ok_w_eqTurnS : FmOK Try.prog 42 m_w_eqTurnS := @FmOK.made Try.prog E_w_eqTurnS ek_w_eqTurnS 42 Try.f42 (lookL ll_w_eqTurnS) m_w_eqTurnS Try.func42 (by kernel_rfl) lo_w_eqTurnS fun ds out _ hr => by obtain ⟨a, b, ⟨⟩⟩ := ds; exact (ev_w_eqTurnS a b).trans hr

def E_w_eqPose : Tabs := (mkE tab [(90, m_w_eqVector), (42, m_w_eqTurnS)] [])
set_option maxRecDepth 4000 in
theorem ek_w_eqPose : EnvOK Try.prog E_w_eqPose := (mkE_ok tab_ok mixed (AllF.cons ok_w_eqVector (AllF.cons ok_w_eqTurnS AllF.nil)) AllX.nil)
theorem ev_w_eqPose (a : dPose) (b : dPose) : evalF E_w_eqPose noL Try.f44 [.ro true tPose, .ro true tPose] (.one false .bool) (a, b, ()) = g_w_eqPose a b := by kernel_rfl
def m_w_eqPose : FM := { ps := [.ro true tPose, .ro true tPose], res := .one false .bool, run := fun x => g_w_eqPose x.1 x.2.1 }
set_option maxRecDepth 4000 in
theorem ok_w_eqPose : FmOK Try.prog 44 m_w_eqPose := @FmOK.made Try.prog E_w_eqPose ek_w_eqPose 44 Try.f44 noL m_w_eqPose Try.func44 (by kernel_rfl) (Loops.none (by kernel_rfl)) fun ds out _ hr => by obtain ⟨a, b, ⟨⟩⟩ := ds; exact (ev_w_eqPose a b).trans hr

def E_w_eqInt64S : Tabs := (mkE tab [] [])
set_option maxRecDepth 4000 in
theorem ek_w_eqInt64S : EnvOK Try.prog E_w_eqInt64S := (mkE_ok tab_ok mixed AllF.nil AllX.nil)
def lm_L_w_eqInt64S_1 : LM := { mat := [], head := { slots := [(0, .dat false (.slice (.int .i64))), (1, .dat false (.slice (.int .i64))), (4, .dat false .bool), (5, .dat false (.int .i64))], blks := [] }, out := { slots := [(4, .dat false .bool)], blks := [] }, ex := 0, rets := true, run := iter L_w_eqInt64S_1 fuel }
def ll_w_eqInt64S : List (Nat × LP) := [(4, .lm lm_L_w_eqInt64S_1)]
theorem rd_L_w_eqInt64S_1 (rec' : ((List Int) × (List Int) × Bool × Int × Unit) × (Unit) → Option (Bool × ((Bool × Unit) × (Unit)))) (a : (List Int)) (b : (List Int)) (t4 : Bool) (i : Int) : round E_w_eqInt64S (lookL ll_w_eqInt64S) lm_L_w_eqInt64S_1 26 (loopAt Try.f61 0) rec' ((a, b, t4, i, ()), (())) = L_w_eqInt64S_1 rec' ((a, b, t4, i, ()), (())) := by kernel_rfl
theorem lo_w_eqInt64S : Loops E_w_eqInt64S (lookL ll_w_eqInt64S) Try.f61 := Loops.list (by kernel_rfl) (by kernel_rfl) ⟨LoopOK.iter (step := L_w_eqInt64S_1) (N := fun _ => fuel) (fun rec' x => by obtain ⟨⟨a, b, t4, i, ⟨⟩⟩, ⟨⟨⟩⟩⟩ := x; exact rd_L_w_eqInt64S_1 rec' a b t4 i) fun _ => rfl, trivial⟩
theorem ev_w_eqInt64S (a : (List Int)) (b : (List Int)) : evalF E_w_eqInt64S (lookL ll_w_eqInt64S) Try.f61 [.ro false (.slice (.int .i64)), .ro false (.slice (.int .i64))] (.one false .bool) (a, b, ()) = g_w_eqInt64S a b := by kernel_rfl
def m_w_eqInt64S : FM := { ps := [.ro false (.slice (.int .i64)), .ro false (.slice (.int .i64))], res := .one false .bool, run := fun x => g_w_eqInt64S x.1 x.2.1 }
set_option maxRecDepth 4000 in
theorem ok_w_eqInt64S : FmOK Try.prog 61 m_w_eqInt64S := @FmOK.made Try.prog E_w_eqInt64S ek_w_eqInt64S 61 Try.f61 (lookL ll_w_eqInt64S) m_w_eqInt64S Try.func61 (by kernel_rfl) lo_w_eqInt64S fun ds out _ hr => by obtain ⟨a, b, ⟨⟩⟩ := ds; exact (ev_w_eqInt64S a b).trans hr

def E_w_eqFloat32S : Tabs := (mkE tab [(37, m_w_sameFloat)] [])
set_option maxRecDepth 4000 in
theorem ek_w_eqFloat32S : EnvOK Try.prog E_w_eqFloat32S := (mkE_ok tab_ok mixed (AllF.cons ok_w_sameFloat AllF.nil) AllX.nil)
def lm_L_w_eqFloat32S_1 : LM := { mat := [], head := { slots := [(0, .dat false (.slice (.flt .f32))), (1, .dat false (.slice (.flt .f32))), (4, .dat false .bool), (5, .dat false (.int .i64))], blks := [] }, out := { slots := [(4, .dat false .bool)], blks := [] }, ex := 0, rets := true, run := iter L_w_eqFloat32S_1 fuel }
def ll_w_eqFloat32S : List (Nat × LP) := [(4, .lm lm_L_w_eqFloat32S_1)]
theorem rd_L_w_eqFloat32S_1 (rec' : ((List Nat) × (List Nat) × Bool × Int × Unit) × (Unit) → Option (Bool × ((Bool × Unit) × (Unit)))) (a : (List Nat)) (b : (List Nat)) (t4 : Bool) (i : Int) : round E_w_eqFloat32S (lookL ll_w_eqFloat32S) lm_L_w_eqFloat32S_1 29 (loopAt Try.f89 0) rec' ((a, b, t4, i, ()), (())) = L_w_eqFloat32S_1 rec' ((a, b, t4, i, ()), (())) := by kernel_rfl
theorem lo_w_eqFloat32S : Loops E_w_eqFloat32S (lookL ll_w_eqFloat32S) Try.f89 := Loops.list (by kernel_rfl) (by kernel_rfl) ⟨LoopOK.iter (step := L_w_eqFloat32S_1) (N := fun _ => fuel) (fun rec' x => by obtain ⟨⟨a, b, t4, i, ⟨⟩⟩, ⟨⟨⟩⟩⟩ := x; exact rd_L_w_eqFloat32S_1 rec' a b t4 i) fun _ => rfl, trivial⟩
theorem ev_w_eqFloat32S (a : (List Nat)) (b : (List Nat)) : evalF E_w_eqFloat32S (lookL ll_w_eqFloat32S) Try.f89 [.ro false (.slice (.flt .f32)), .ro false (.slice (.flt .f32))] (.one false .bool) (a, b, ()) = g_w_eqFloat32S a b := by kernel_rfl
def m_w_eqFloat32S : FM := { ps := [.ro false (.slice (.flt .f32)), .ro false (.slice (.flt .f32))], res := .one false .bool, run := fun x => g_w_eqFloat32S x.1 x.2.1 }
set_option maxRecDepth 4000 in
theorem ok_w_eqFloat32S : FmOK Try.prog 89 m_w_eqFloat32S := @FmOK.made Try.prog E_w_eqFloat32S ek_w_eqFloat32S 89 Try.f89 (lookL ll_w_eqFloat32S) m_w_eqFloat32S Try.func89 (by kernel_rfl) lo_w_eqFloat32S fun ds out _ hr => by obtain ⟨a, b, ⟨⟩⟩ := ds; exact (ev_w_eqFloat32S a b).trans hr

def E_w_eqSkinPoint : Tabs := (mkE tab [(90, m_w_eqVector), (61, m_w_eqInt64S), (89, m_w_eqFloat32S)] [])
set_option maxRecDepth 4000 in
theorem ek_w_eqSkinPoint : EnvOK Try.prog E_w_eqSkinPoint := (mkE_ok tab_ok mixed (AllF.cons ok_w_eqVector (AllF.cons ok_w_eqInt64S (AllF.cons ok_w_eqFloat32S AllF.nil))) AllX.nil)
theorem ev_w_eqSkinPoint (a : dSkinPoint) (b : dSkinPoint) : evalF E_w_eqSkinPoint noL Try.f100 [.ro true tSkinPoint, .ro true tSkinPoint] (.one false .bool) (a, b, ()) = g_w_eqSkinPoint a b := by kernel_rfl
def m_w_eqSkinPoint : FM := { ps := [.ro true tSkinPoint, .ro true tSkinPoint], res := .one false .bool, run := fun x => g_w_eqSkinPoint x.1 x.2.1 }
set_option maxRecDepth 4000 in
theorem ok_w_eqSkinPoint : FmOK Try.prog 100 m_w_eqSkinPoint := @FmOK.made Try.prog E_w_eqSkinPoint ek_w_eqSkinPoint 100 Try.f100 noL m_w_eqSkinPoint Try.func100 (by kernel_rfl) (Loops.none (by kernel_rfl)) fun ds out _ hr => by obtain ⟨a, b, ⟨⟩⟩ := ds; exact (ev_w_eqSkinPoint a b).trans hr

def E_w_eqSkinPointS : Tabs := (mkE tab [(100, m_w_eqSkinPoint)] [])
set_option maxRecDepth 4000 in
theorem ek_w_eqSkinPointS : EnvOK Try.prog E_w_eqSkinPointS := (mkE_ok tab_ok mixed (AllF.cons ok_w_eqSkinPoint AllF.nil) AllX.nil)
def lm_L_w_eqSkinPointS_1 : LM := { mat := [], head := { slots := [(0, .dat false (.slice tSkinPoint)), (1, .dat false (.slice tSkinPoint)), (4, .dat false .bool), (5, .dat false (.int .i64))], blks := [] }, out := { slots := [(4, .dat false .bool)], blks := [] }, ex := 0, rets := true, run := iter L_w_eqSkinPointS_1 fuel }
def ll_w_eqSkinPointS : List (Nat × LP) := [(4, .lm lm_L_w_eqSkinPointS_1)]
theorem rd_L_w_eqSkinPointS_1 (rec' : ((List dSkinPoint) × (List dSkinPoint) × Bool × Int × Unit) × (Unit) → Option (Bool × ((Bool × Unit) × (Unit)))) (a : (List dSkinPoint)) (b : (List dSkinPoint)) (t4 : Bool) (i : Int) : round E_w_eqSkinPointS (lookL ll_w_eqSkinPointS) lm_L_w_eqSkinPointS_1 27 (loopAt Try.f30 0) rec' ((a, b, t4, i, ()), (())) = L_w_eqSkinPointS_1 rec' ((a, b, t4, i, ()), (())) := by kernel_rfl
theorem lo_w_eqSkinPointS : Loops E_w_eqSkinPointS (lookL ll_w_eqSkinPointS) Try.f30 := Loops.list (by kernel_rfl) (by kernel_rfl) ⟨LoopOK.iter (step := L_w_eqSkinPointS_1) (N := fun _ => fuel) (fun rec' x => by obtain ⟨⟨a, b, t4, i, ⟨⟩⟩, ⟨⟨⟩⟩⟩ := x; exact rd_L_w_eqSkinPointS_1 rec' a b t4 i) fun _ => rfl, trivial⟩
theorem ev_w_eqSkinPointS (a : (List dSkinPoint)) (b : (List dSkinPoint)) : evalF E_w_eqSkinPointS (lookL ll_w_eqSkinPointS) Try.f30 [.ro false (.slice tSkinPoint), .ro false (.slice tSkinPoint)] (.one false .bool) (a, b, ()) = g_w_eqSkinPointS a b := by kernel_rfl
def m_w_eqSkinPointS : FM := { ps := [.ro false (.slice tSkinPoint), .ro false (.slice tSkinPoint)], res := .one false .bool, run := fun x => g_w_eqSkinPointS x.1 x.2.1 }
set_option maxRecDepth 4000 in
theorem ok_w_eqSkinPointS : FmOK Try.prog 30 m_w_eqSkinPointS := @FmOK.made Try.prog E_w_eqSkinPointS ek_w_eqSkinPointS 30 Try.f30 (lookL ll_w_eqSkinPointS) m_w_eqSkinPointS Try.func30 (by kernel_rfl) lo_w_eqSkinPointS fun ds out _ hr => by obtain ⟨a, b, ⟨⟩⟩ := ds; exact (ev_w_eqSkinPointS a b).trans hr

def E_w_markBoneS : Tabs := (mkE tab [] [])
set_option maxRecDepth 4000 in
theorem ek_w_markBoneS : EnvOK Try.prog E_w_markBoneS := (mkE_ok tab_ok mixed AllF.nil AllX.nil)
def lm_L_w_markBoneS_1 : LM := { mat := [], head := { slots := [(0, .cst (.sl (.row 0))), (1, .dat false (.int .i64)), (5, .dat false (.int .i64))], blks := [.row true tRootKey] }, out := { slots := [(1, .dat false (.int .i64))], blks := [.row true tRootKey] }, ex := 0, rets := false, run := iter L_w_markBoneS_1 fuel }
def ll_w_markBoneS : List (Nat × LP) := [(2, .lm lm_L_w_markBoneS_1)]
theorem rd_L_w_markBoneS_1 (rec' : (Int × Int × Unit) × ((List dRootKey) × Unit) → Option ((Int × Unit) × ((List dRootKey) × Unit))) (k : Int) (i : Int) (r0 : (List dRootKey)) : round E_w_markBoneS (lookL ll_w_markBoneS) lm_L_w_markBoneS_1 47 (loopAt Try.f124 0) rec' ((k, i, ()), (r0, ())) = L_w_markBoneS_1 rec' ((k, i, ()), (r0, ())) := by kernel_rfl
theorem lo_w_markBoneS : Loops E_w_markBoneS (lookL ll_w_markBoneS) Try.f124 := Loops.list (by kernel_rfl) (by kernel_rfl) ⟨LoopOK.iter (step := L_w_markBoneS_1) (N := fun _ => fuel) (fun rec' x => by obtain ⟨⟨k, i, ⟨⟩⟩, ⟨r0, ⟨⟩⟩⟩ := x; exact rd_L_w_markBoneS_1 rec' k i r0) fun _ => rfl, trivial⟩
theorem ev_w_markBoneS (a : (List dRootKey)) (k : Int) : evalX E_w_markBoneS (lookL ll_w_markBoneS) Try.f124 [.own false (.slice tRootKey), .ro false (.int .i64)] (.one false (.int .i64)) (a, k, ()) = g_w_markBoneS a k := by kernel_rfl
def m_w_markBoneS : FX := { ps := [.own false (.slice tRootKey), .ro false (.int .i64)], res := .one false (.int .i64), run := fun x => g_w_markBoneS x.1 x.2.1 }
set_option maxRecDepth 4000 in
theorem ok_w_markBoneS : FxOK Try.prog 124 m_w_markBoneS := @FxOK.made Try.prog E_w_markBoneS ek_w_markBoneS 124 Try.f124 (lookL ll_w_markBoneS) m_w_markBoneS Try.func124 (by kernel_rfl) lo_w_markBoneS fun ds out _ hr => by obtain ⟨a, k, ⟨⟩⟩ := ds; exact (ev_w_markBoneS a k).trans hr

def E_w_markSkeleton : Tabs := (mkE tab [] [(124, m_w_markBoneS)])
set_option maxRecDepth 4000 in
theorem ek_w_markSkeleton : EnvOK Try.prog E_w_markSkeleton := (mkE_ok tab_ok mixed AllF.nil (AllX.cons ok_w_markBoneS AllX.nil))
theorem ev_w_markSkeleton (a : dSkel) (k : Int) : evalX E_w_markSkeleton noL Try.f45 [.own true tSkel, .ro false (.int .i64)] (.one false (.int .i64)) (a, k, ()) = g_w_markSkeleton a k := by kernel_rfl
def m_w_markSkeleton : FX := { ps := [.own true tSkel, .ro false (.int .i64)], res := .one false (.int .i64), run := fun x => g_w_markSkeleton x.1 x.2.1 }
set_option maxRecDepth 4000 in
theorem ok_w_markSkeleton : FxOK Try.prog 45 m_w_markSkeleton := @FxOK.made Try.prog E_w_markSkeleton ek_w_markSkeleton 45 Try.f45 noL m_w_markSkeleton Try.func45 (by kernel_rfl) (Loops.none (by kernel_rfl)) fun ds out _ hr => by obtain ⟨a, k, ⟨⟩⟩ := ds; exact (ev_w_markSkeleton a k).trans hr

def E_w_markTurnS : Tabs := (mkE tab [] [])
set_option maxRecDepth 4000 in
theorem ek_w_markTurnS : EnvOK Try.prog E_w_markTurnS := (mkE_ok tab_ok mixed AllF.nil AllX.nil)
def lm_L_w_markTurnS_1 : LM := { mat := [], head := { slots := [(0, .cst (.sl (.row 0))), (1, .dat false (.int .i64)), (5, .dat false (.int .i64))], blks := [.row true tTurn] }, out := { slots := [(1, .dat false (.int .i64))], blks := [.row true tTurn] }, ex := 0, rets := false, run := iter L_w_markTurnS_1 fuel }
def ll_w_markTurnS : List (Nat × LP) := [(2, .lm lm_L_w_markTurnS_1)]
theorem rd_L_w_markTurnS_1 (rec' : (Int × Int × Unit) × ((List dTurn) × Unit) → Option ((Int × Unit) × ((List dTurn) × Unit))) (k : Int) (i : Int) (r0 : (List dTurn)) : round E_w_markTurnS (lookL ll_w_markTurnS) lm_L_w_markTurnS_1 45 (loopAt Try.f47 0) rec' ((k, i, ()), (r0, ())) = L_w_markTurnS_1 rec' ((k, i, ()), (r0, ())) := by kernel_rfl
theorem lo_w_markTurnS : Loops E_w_markTurnS (lookL ll_w_markTurnS) Try.f47 := Loops.list (by kernel_rfl) (by kernel_rfl) ⟨LoopOK.iter (step := L_w_markTurnS_1) (N := fun _ => fuel) (fun rec' x => by obtain ⟨⟨k, i, ⟨⟩⟩, ⟨r0, ⟨⟩⟩⟩ := x; exact rd_L_w_markTurnS_1 rec' k i r0) fun _ => rfl, trivial⟩
theorem ev_w_markTurnS (a : (List dTurn)) (k : Int) : evalX E_w_markTurnS (lookL ll_w_markTurnS) Try.f47 [.own false (.slice tTurn), .ro false (.int .i64)] (.one false (.int .i64)) (a, k, ()) = g_w_markTurnS a k := by kernel_rfl
def m_w_markTurnS : FX := { ps := [.own false (.slice tTurn), .ro false (.int .i64)], res := .one false (.int .i64), run := fun x => g_w_markTurnS x.1 x.2.1 }
set_option maxRecDepth 4000 in
theorem ok_w_markTurnS : FxOK Try.prog 47 m_w_markTurnS := @FxOK.made Try.prog E_w_markTurnS ek_w_markTurnS 47 Try.f47 (lookL ll_w_markTurnS) m_w_markTurnS Try.func47 (by kernel_rfl) lo_w_markTurnS fun ds out _ hr => by obtain ⟨a, k, ⟨⟩⟩ := ds; exact (ev_w_markTurnS a k).trans hr

def E_w_markPose : Tabs := (mkE tab [] [(47, m_w_markTurnS)])
set_option maxRecDepth 4000 in
theorem ek_w_markPose : EnvOK Try.prog E_w_markPose := (mkE_ok tab_ok mixed AllF.nil (AllX.cons ok_w_markTurnS AllX.nil))
theorem ev_w_markPose (a : dPose) (k : Int) : evalX E_w_markPose noL Try.f46 [.own true tPose, .ro false (.int .i64)] (.one false (.int .i64)) (a, k, ()) = g_w_markPose a k := by kernel_rfl
def m_w_markPose : FX := { ps := [.own true tPose, .ro false (.int .i64)], res := .one false (.int .i64), run := fun x => g_w_markPose x.1 x.2.1 }
set_option maxRecDepth 4000 in
theorem ok_w_markPose : FxOK Try.prog 46 m_w_markPose := @FxOK.made Try.prog E_w_markPose ek_w_markPose 46 Try.f46 noL m_w_markPose Try.func46 (by kernel_rfl) (Loops.none (by kernel_rfl)) fun ds out _ hr => by obtain ⟨a, k, ⟨⟩⟩ := ds; exact (ev_w_markPose a k).trans hr

def E_w_markInt64S : Tabs := (mkE tab [] [])
set_option maxRecDepth 4000 in
theorem ek_w_markInt64S : EnvOK Try.prog E_w_markInt64S := (mkE_ok tab_ok mixed AllF.nil AllX.nil)
def lm_L_w_markInt64S_1 : LM := { mat := [], head := { slots := [(0, .cst (.sl (.row 0))), (1, .dat false (.int .i64)), (5, .dat false (.int .i64))], blks := [.row true (.int .i64)] }, out := { slots := [(1, .dat false (.int .i64))], blks := [.row true (.int .i64)] }, ex := 0, rets := false, run := iter L_w_markInt64S_1 fuel }
def ll_w_markInt64S : List (Nat × LP) := [(2, .lm lm_L_w_markInt64S_1)]
theorem rd_L_w_markInt64S_1 (rec' : (Int × Int × Unit) × ((List Int) × Unit) → Option ((Int × Unit) × ((List Int) × Unit))) (k : Int) (i : Int) (r0 : (List Int)) : round E_w_markInt64S (lookL ll_w_markInt64S) lm_L_w_markInt64S_1 19 (loopAt Try.f62 0) rec' ((k, i, ()), (r0, ())) = L_w_markInt64S_1 rec' ((k, i, ()), (r0, ())) := by kernel_rfl
theorem lo_w_markInt64S : Loops E_w_markInt64S (lookL ll_w_markInt64S) Try.f62 := Loops.list (by kernel_rfl) (by kernel_rfl) ⟨LoopOK.iter (step := L_w_markInt64S_1) (N := fun _ => fuel) (fun rec' x => by obtain ⟨⟨k, i, ⟨⟩⟩, ⟨r0, ⟨⟩⟩⟩ := x; exact rd_L_w_markInt64S_1 rec' k i r0) fun _ => rfl, trivial⟩
theorem ev_w_markInt64S (a : (List Int)) (k : Int) : evalX E_w_markInt64S (lookL ll_w_markInt64S) Try.f62 [.own false (.slice (.int .i64)), .ro false (.int .i64)] (.one false (.int .i64)) (a, k, ()) = g_w_markInt64S a k := by kernel_rfl
def m_w_markInt64S : FX := { ps := [.own false (.slice (.int .i64)), .ro false (.int .i64)], res := .one false (.int .i64), run := fun x => g_w_markInt64S x.1 x.2.1 }
set_option maxRecDepth 4000 in
theorem ok_w_markInt64S : FxOK Try.prog 62 m_w_markInt64S := @FxOK.made Try.prog E_w_markInt64S ek_w_markInt64S 62 Try.f62 (lookL ll_w_markInt64S) m_w_markInt64S Try.func62 (by kernel_rfl) lo_w_markInt64S fun ds out _ hr => by obtain ⟨a, k, ⟨⟩⟩ := ds; exact (ev_w_markInt64S a k).trans hr

def E_w_markFloat32S : Tabs := (mkE tab [] [])
set_option maxRecDepth 4000 in
theorem ek_w_markFloat32S : EnvOK Try.prog E_w_markFloat32S := (mkE_ok tab_ok mixed AllF.nil AllX.nil)
def lm_L_w_markFloat32S_1 : LM := { mat := [], head := { slots := [(0, .cst (.sl (.row 0))), (1, .dat false (.int .i64)), (5, .dat false (.int .i64))], blks := [.row true (.flt .f32)] }, out := { slots := [(1, .dat false (.int .i64))], blks := [.row true (.flt .f32)] }, ex := 0, rets := false, run := iter L_w_markFloat32S_1 fuel }
def ll_w_markFloat32S : List (Nat × LP) := [(2, .lm lm_L_w_markFloat32S_1)]
theorem rd_L_w_markFloat32S_1 (rec' : (Int × Int × Unit) × ((List Nat) × Unit) → Option ((Int × Unit) × ((List Nat) × Unit))) (k : Int) (i : Int) (r0 : (List Nat)) : round E_w_markFloat32S (lookL ll_w_markFloat32S) lm_L_w_markFloat32S_1 20 (loopAt Try.f110 0) rec' ((k, i, ()), (r0, ())) = L_w_markFloat32S_1 rec' ((k, i, ()), (r0, ())) := by kernel_rfl
theorem lo_w_markFloat32S : Loops E_w_markFloat32S (lookL ll_w_markFloat32S) Try.f110 := Loops.list (by kernel_rfl) (by kernel_rfl) ⟨LoopOK.iter (step := L_w_markFloat32S_1) (N := fun _ => fuel) (fun rec' x => by obtain ⟨⟨k, i, ⟨⟩⟩, ⟨r0, ⟨⟩⟩⟩ := x; exact rd_L_w_markFloat32S_1 rec' k i r0) fun _ => rfl, trivial⟩
theorem ev_w_markFloat32S (a : (List Nat)) (k : Int) : evalX E_w_markFloat32S (lookL ll_w_markFloat32S) Try.f110 [.own false (.slice (.flt .f32)), .ro false (.int .i64)] (.one false (.int .i64)) (a, k, ()) = g_w_markFloat32S a k := by kernel_rfl
def m_w_markFloat32S : FX := { ps := [.own false (.slice (.flt .f32)), .ro false (.int .i64)], res := .one false (.int .i64), run := fun x => g_w_markFloat32S x.1 x.2.1 }
set_option maxRecDepth 4000 in
theorem ok_w_markFloat32S : FxOK Try.prog 110 m_w_markFloat32S := @FxOK.made Try.prog E_w_markFloat32S ek_w_markFloat32S 110 Try.f110 (lookL ll_w_markFloat32S) m_w_markFloat32S Try.func110 (by kernel_rfl) lo_w_markFloat32S fun ds out _ hr => by obtain ⟨a, k, ⟨⟩⟩ := ds; exact (ev_w_markFloat32S a k).trans hr

def E_w_markSkinPointS : Tabs := (mkE tab [] [(62, m_w_markInt64S), (110, m_w_markFloat32S)])
set_option maxRecDepth 4000 in
theorem ek_w_markSkinPointS : EnvOK Try.prog E_w_markSkinPointS := (mkE_ok tab_ok mixed AllF.nil (AllX.cons ok_w_markInt64S (AllX.cons ok_w_markFloat32S AllX.nil)))
def lm_L_w_markSkinPointS_1 : LM := { mat := [], head := { slots := [(0, .cst (.sl (.row 0))), (1, .dat false (.int .i64)), (5, .dat false (.int .i64))], blks := [.row true tSkinPoint] }, out := { slots := [(1, .dat false (.int .i64))], blks := [.row true tSkinPoint] }, ex := 0, rets := false, run := iter L_w_markSkinPointS_1 fuel }
def ll_w_markSkinPointS : List (Nat × LP) := [(2, .lm lm_L_w_markSkinPointS_1)]
theorem rd_L_w_markSkinPointS_1 (rec' : (Int × Int × Unit) × ((List dSkinPoint) × Unit) → Option ((Int × Unit) × ((List dSkinPoint) × Unit))) (k : Int) (i : Int) (r0 : (List dSkinPoint)) : round E_w_markSkinPointS (lookL ll_w_markSkinPointS) lm_L_w_markSkinPointS_1 54 (loopAt Try.f33 0) rec' ((k, i, ()), (r0, ())) = L_w_markSkinPointS_1 rec' ((k, i, ()), (r0, ())) := by kernel_rfl
theorem lo_w_markSkinPointS : Loops E_w_markSkinPointS (lookL ll_w_markSkinPointS) Try.f33 := Loops.list (by kernel_rfl) (by kernel_rfl) ⟨LoopOK.iter (step := L_w_markSkinPointS_1) (N := fun _ => fuel) (fun rec' x => by obtain ⟨⟨k, i, ⟨⟩⟩, ⟨r0, ⟨⟩⟩⟩ := x; exact rd_L_w_markSkinPointS_1 rec' k i r0) fun _ => rfl, trivial⟩
theorem ev_w_markSkinPointS (a : (List dSkinPoint)) (k : Int) : evalX E_w_markSkinPointS (lookL ll_w_markSkinPointS) Try.f33 [.own false (.slice tSkinPoint), .ro false (.int .i64)] (.one false (.int .i64)) (a, k, ()) = g_w_markSkinPointS a k := by kernel_rfl
def m_w_markSkinPointS : FX := { ps := [.own false (.slice tSkinPoint), .ro false (.int .i64)], res := .one false (.int .i64), run := fun x => g_w_markSkinPointS x.1 x.2.1 }
set_option maxRecDepth 4000 in
theorem ok_w_markSkinPointS : FxOK Try.prog 33 m_w_markSkinPointS := @FxOK.made Try.prog E_w_markSkinPointS ek_w_markSkinPointS 33 Try.f33 (lookL ll_w_markSkinPointS) m_w_markSkinPointS Try.func33 (by kernel_rfl) lo_w_markSkinPointS fun ds out _ hr => by obtain ⟨a, k, ⟨⟩⟩ := ds; exact (ev_w_markSkinPointS a k).trans hr

def E_w_markVectorS : Tabs := (mkE tab [] [])
set_option maxRecDepth 4000 in
theorem ek_w_markVectorS : EnvOK Try.prog E_w_markVectorS := (mkE_ok tab_ok mixed AllF.nil AllX.nil)
def lm_L_w_markVectorS_1 : LM := { mat := [], head := { slots := [(0, .cst (.sl (.row 0))), (1, .dat false (.int .i64)), (5, .dat false (.int .i64))], blks := [.row true tVec] }, out := { slots := [(1, .dat false (.int .i64))], blks := [.row true tVec] }, ex := 0, rets := false, run := iter L_w_markVectorS_1 fuel }
def ll_w_markVectorS : List (Nat × LP) := [(2, .lm lm_L_w_markVectorS_1)]
theorem rd_L_w_markVectorS_1 (rec' : (Int × Int × Unit) × ((List dVec) × Unit) → Option ((Int × Unit) × ((List dVec) × Unit))) (k : Int) (i : Int) (r0 : (List dVec)) : round E_w_markVectorS (lookL ll_w_markVectorS) lm_L_w_markVectorS_1 37 (loopAt Try.f48 0) rec' ((k, i, ()), (r0, ())) = L_w_markVectorS_1 rec' ((k, i, ()), (r0, ())) := by kernel_rfl
theorem lo_w_markVectorS : Loops E_w_markVectorS (lookL ll_w_markVectorS) Try.f48 := Loops.list (by kernel_rfl) (by kernel_rfl) ⟨LoopOK.iter (step := L_w_markVectorS_1) (N := fun _ => fuel) (fun rec' x => by obtain ⟨⟨k, i, ⟨⟩⟩, ⟨r0, ⟨⟩⟩⟩ := x; exact rd_L_w_markVectorS_1 rec' k i r0) fun _ => rfl, trivial⟩
theorem ev_w_markVectorS (a : (List dVec)) (k : Int) : evalX E_w_markVectorS (lookL ll_w_markVectorS) Try.f48 [.own false (.slice tVec), .ro false (.int .i64)] (.one false (.int .i64)) (a, k, ()) = g_w_markVectorS a k := by kernel_rfl
def m_w_markVectorS : FX := { ps := [.own false (.slice tVec), .ro false (.int .i64)], res := .one false (.int .i64), run := fun x => g_w_markVectorS x.1 x.2.1 }
set_option maxRecDepth 4000 in
theorem ok_w_markVectorS : FxOK Try.prog 48 m_w_markVectorS := @FxOK.made Try.prog E_w_markVectorS ek_w_markVectorS 48 Try.f48 (lookL ll_w_markVectorS) m_w_markVectorS Try.func48 (by kernel_rfl) lo_w_markVectorS fun ds out _ hr => by obtain ⟨a, k, ⟨⟩⟩ := ds; exact (ev_w_markVectorS a k).trans hr

def E_w_heldVectorS : Tabs := (mkE tab [] [])
set_option maxRecDepth 4000 in
theorem ek_w_heldVectorS : EnvOK Try.prog E_w_heldVectorS := (mkE_ok tab_ok mixed AllF.nil AllX.nil)
def lm_L_w_heldVectorS_1 : LM := { mat := [], head := { slots := [(0, .dat false (.slice tVec)), (1, .dat false (.int .i64)), (4, .dat false (.int .i64)), (5, .dat false (.int .i64))], blks := [] }, out := { slots := [(1, .dat false (.int .i64)), (4, .dat false (.int .i64))], blks := [] }, ex := 0, rets := true, run := iter L_w_heldVectorS_1 fuel }
def ll_w_heldVectorS : List (Nat × LP) := [(2, .lm lm_L_w_heldVectorS_1)]
theorem rd_L_w_heldVectorS_1 (rec' : ((List dVec) × Int × Int × Int × Unit) × (Unit) → Option (Bool × ((Int × Int × Unit) × (Unit)))) (a : (List dVec)) (k : Int) (t4 : Int) (i : Int) : round E_w_heldVectorS (lookL ll_w_heldVectorS) lm_L_w_heldVectorS_1 43 (loopAt Try.f50 0) rec' ((a, k, t4, i, ()), (())) = L_w_heldVectorS_1 rec' ((a, k, t4, i, ()), (())) := by kernel_rfl
theorem lo_w_heldVectorS : Loops E_w_heldVectorS (lookL ll_w_heldVectorS) Try.f50 := Loops.list (by kernel_rfl) (by kernel_rfl) ⟨LoopOK.iter (step := L_w_heldVectorS_1) (N := fun _ => fuel) (fun rec' x => by obtain ⟨⟨a, k, t4, i, ⟨⟩⟩, ⟨⟨⟩⟩⟩ := x; exact rd_L_w_heldVectorS_1 rec' a k t4 i) fun _ => rfl, trivial⟩
theorem ev_w_heldVectorS (a : (List dVec)) (k : Int) : evalF E_w_heldVectorS (lookL ll_w_heldVectorS) Try.f50 [.ro false (.slice tVec), .ro false (.int .i64)] (.one false (.int .i64)) (a, k, ()) = g_w_heldVectorS a k := by kernel_rfl
def m_w_heldVectorS : FM := { ps := [.ro false (.slice tVec), .ro false (.int .i64)], res := .one false (.int .i64), run := fun x => g_w_heldVectorS x.1 x.2.1 }
set_option maxRecDepth 4000 in
theorem ok_w_heldVectorS : FmOK Try.prog 50 m_w_heldVectorS := @FmOK.made Try.prog E_w_heldVectorS ek_w_heldVectorS 50 Try.f50 (lookL ll_w_heldVectorS) m_w_heldVectorS Try.func50 (by kernel_rfl) lo_w_heldVectorS fun ds out _ hr => by obtain ⟨a, k, ⟨⟩⟩ := ds; exact (ev_w_heldVectorS a k).trans hr

def E_w_FnExactSkinMixed : Tabs := (mkE tab [(23, m_w_szSkeleton), (38, m_w_szPose), (24, m_w_szSkinPointS), (26, m_w_toSkeleton), (40, m_w_toPose), (27, m_w_toSkinPointS), (57, m_s_SkinMixed), (58, m_i_SkinMixed), (43, m_w_eqVectorS), (29, m_w_eqSkeleton), (44, m_w_eqPose), (30, m_w_eqSkinPointS), (50, m_w_heldVectorS)] [(45, m_w_markSkeleton), (46, m_w_markPose), (33, m_w_markSkinPointS), (48, m_w_markVectorS)])
set_option maxRecDepth 4000 in
theorem ek_w_FnExactSkinMixed : EnvOK Try.prog E_w_FnExactSkinMixed := (mkE_ok tab_ok mixed (AllF.cons ok_w_szSkeleton (AllF.cons ok_w_szPose (AllF.cons ok_w_szSkinPointS (AllF.cons ok_w_toSkeleton (AllF.cons ok_w_toPose (AllF.cons ok_w_toSkinPointS (AllF.cons ok_s_SkinMixed (AllF.cons ok_i_SkinMixed (AllF.cons ok_w_eqVectorS (AllF.cons ok_w_eqSkeleton (AllF.cons ok_w_eqPose (AllF.cons ok_w_eqSkinPointS (AllF.cons ok_w_heldVectorS AllF.nil))))))))))))) (AllX.cons ok_w_markSkeleton (AllX.cons ok_w_markPose (AllX.cons ok_w_markSkinPointS (AllX.cons ok_w_markVectorS AllX.nil)))))
theorem ev_w_FnExactSkinMixed (aK : dSkel) (aRest : dPose) (aP : dPose) (aPoints : (List dSkinPoint)) : evalF E_w_FnExactSkinMixed noL Try.f11 [.ro true tSkel, .ro true tPose, .ro true tPose, .ro false (.slice tSkinPoint)] (.one false .bool) (aK, aRest, aP, aPoints, ()) = g_w_FnExactSkinMixed aK aRest aP aPoints := by kernel_rfl
end
end Go.Fw.B
