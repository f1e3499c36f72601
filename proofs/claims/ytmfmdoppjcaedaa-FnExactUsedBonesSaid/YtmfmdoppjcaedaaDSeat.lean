/- The functions of the translation compute what the plain functions compute. No condition. -/
import Derived.Test.YtmfmdoppjcaedaaDPure
import Derived.Test.YtmfmdoppjcaedaaProg
import Derived.Test.YtmfmdoppjcaedaaDLay
import Derived.KernelRfl
set_option linter.unusedVariables false
namespace Go.Fw.D
open Go.Fw Go.Proofs Go.RowKit
noncomputable section
def tab : List (Nat × TI) := [
  (2, { und := .int .i64, size := 1, bytes := 8, zero := [.int .i64 0], ty := (.int .i64) }),
  (3, { und := .int .i64, size := 1, bytes := 8, zero := [.int .i64 0], ty := (.int .i64) }),
  (4, { und := .bool, size := 1, bytes := 1, zero := [.bool false], ty := .bool }),
  (22, { und := .flt .f32, size := 1, bytes := 4, zero := [.flt .f32 0], ty := (.flt .f32) }),
  (33, { und := .slice 115, size := 1, bytes := 24, zero := [.sl .nil], ty := (.slice tRootKey) }),
  (35, { und := .struct [(0, 33)], size := 1, bytes := 24, zero := [.sl .nil], ty := tSkel }),
  (36, { und := .slice 76, size := 1, bytes := 24, zero := [.sl .nil], ty := (.slice tSkinPoint) }),
  (39, { und := .slice 2, size := 1, bytes := 24, zero := [.sl .nil], ty := (.slice (.int .i64)) }),
  (42, { und := .slice 109, size := 1, bytes := 24, zero := [.sl .nil], ty := (.slice tRootKey) }),
  (44, { und := .struct [(0, 42)], size := 1, bytes := 24, zero := [.sl .nil], ty := tSkel }),
  (46, { und := .slice 81, size := 1, bytes := 24, zero := [.sl .nil], ty := (.slice tSkinPoint) }),
  (60, { und := .struct [(0, 22), (1, 22), (2, 22)], size := 3, bytes := 12, zero := [.flt .f32 0, .flt .f32 0, .flt .f32 0], ty := tVec }),
  (73, { und := .struct [(0, 22), (1, 22), (2, 22)], size := 3, bytes := 12, zero := [.flt .f32 0, .flt .f32 0, .flt .f32 0], ty := tVec }),
  (74, { und := .slice 22, size := 1, bytes := 24, zero := [.sl .nil], ty := (.slice (.flt .f32)) }),
  (76, { und := .struct [(0, 73), (3, 39), (4, 74)], size := 5, bytes := 64, zero := [.flt .f32 0, .flt .f32 0, .flt .f32 0, .sl .nil, .sl .nil], ty := tSkinPoint }),
  (78, { und := .other, size := 1, bytes := 8, zero := [.pnil], ty := .unit }),
  (81, { und := .struct [(0, 60), (3, 39), (4, 74)], size := 5, bytes := 64, zero := [.flt .f32 0, .flt .f32 0, .flt .f32 0, .sl .nil, .sl .nil], ty := tSkinPoint }),
  (109, { und := .struct [(0, 2), (1, 60)], size := 4, bytes := 24, zero := [.int .i64 0, .flt .f32 0, .flt .f32 0, .flt .f32 0], ty := tRootKey }),
  (111, { und := .other, size := 1, bytes := 8, zero := [.pnil], ty := .unit }),
  (115, { und := .struct [(0, 2), (1, 73)], size := 4, bytes := 24, zero := [.int .i64 0, .flt .f32 0, .flt .f32 0, .flt .f32 0], ty := tRootKey }),
  (122, { und := .int .u64, size := 1, bytes := 8, zero := [.int .u64 0], ty := (.int .u64) }),
  (138, { und := .flt .f64, size := 1, bytes := 8, zero := [.flt .f64 0], ty := (.flt .f64) })]
theorem tab_ok : TabOK Try.prog (lookT tab) := tabB_spec (by kernel_rfl)
theorem mixed : Try.prog.follows .mixedOrders = true := by kernel_rfl
def E_w_szBoneS : Tabs := (mkE tab [] [])
set_option maxRecDepth 4000 in
theorem ek_w_szBoneS : EnvOK Try.prog E_w_szBoneS := (mkE_ok tab_ok mixed AllF.nil AllX.nil)
theorem ev_w_szBoneS (a : (List dRootKey)) (left : Int) : evalF E_w_szBoneS noL Try.f33 [.ro false (.slice tRootKey), .ro false (.int .i64)] (.one false (.int .i64)) (a, left, ()) = g_w_szBoneS a left := by kernel_rfl
def m_w_szBoneS : FM := { ps := [.ro false (.slice tRootKey), .ro false (.int .i64)], res := .one false (.int .i64), run := fun x => some (t_w_szBoneS x.1 x.2.1) }
set_option maxRecDepth 4000 in
theorem ok_w_szBoneS : FmOK Try.prog 33 m_w_szBoneS := @FmOK.made Try.prog E_w_szBoneS ek_w_szBoneS 33 Try.f33 noL m_w_szBoneS Try.func33 (by kernel_rfl) (Loops.none (by kernel_rfl)) fun ds out _ hr => by obtain ⟨a, left, ⟨⟩⟩ := ds; exact (ev_w_szBoneS a left).trans ((q_w_szBoneS a left).trans hr)

def E_w_szSkeleton : Tabs := (mkE tab [(33, m_w_szBoneS)] [])
set_option maxRecDepth 4000 in
theorem ek_w_szSkeleton : EnvOK Try.prog E_w_szSkeleton := (mkE_ok tab_ok mixed (AllF.cons ok_w_szBoneS AllF.nil) AllX.nil)
theorem ev_w_szSkeleton (a : dSkel) (left : Int) : evalF E_w_szSkeleton noL Try.f11 [.ro true tSkel, .ro false (.int .i64)] (.one false (.int .i64)) (a, left, ()) = g_w_szSkeleton a left := by kernel_rfl
def m_w_szSkeleton : FM := { ps := [.ro true tSkel, .ro false (.int .i64)], res := .one false (.int .i64), run := fun x => some (t_w_szSkeleton x.1 x.2.1) }
set_option maxRecDepth 4000 in
theorem ok_w_szSkeleton : FmOK Try.prog 11 m_w_szSkeleton := @FmOK.made Try.prog E_w_szSkeleton ek_w_szSkeleton 11 Try.f11 noL m_w_szSkeleton Try.func11 (by kernel_rfl) (Loops.none (by kernel_rfl)) fun ds out _ hr => by obtain ⟨a, left, ⟨⟩⟩ := ds; exact (ev_w_szSkeleton a left).trans ((q_w_szSkeleton a left).trans hr)

def E_w_szInt64S : Tabs := (mkE tab [] [])
set_option maxRecDepth 4000 in
theorem ek_w_szInt64S : EnvOK Try.prog E_w_szInt64S := (mkE_ok tab_ok mixed AllF.nil AllX.nil)
theorem ev_w_szInt64S (a : (List Int)) (left : Int) : evalF E_w_szInt64S noL Try.f62 [.ro false (.slice (.int .i64)), .ro false (.int .i64)] (.one false (.int .i64)) (a, left, ()) = g_w_szInt64S a left := by kernel_rfl
def m_w_szInt64S : FM := { ps := [.ro false (.slice (.int .i64)), .ro false (.int .i64)], res := .one false (.int .i64), run := fun x => some (t_w_szInt64S x.1 x.2.1) }
set_option maxRecDepth 4000 in
theorem ok_w_szInt64S : FmOK Try.prog 62 m_w_szInt64S := @FmOK.made Try.prog E_w_szInt64S ek_w_szInt64S 62 Try.f62 noL m_w_szInt64S Try.func62 (by kernel_rfl) (Loops.none (by kernel_rfl)) fun ds out _ hr => by obtain ⟨a, left, ⟨⟩⟩ := ds; exact (ev_w_szInt64S a left).trans ((q_w_szInt64S a left).trans hr)

def E_w_szFloat32S : Tabs := (mkE tab [] [])
set_option maxRecDepth 4000 in
theorem ek_w_szFloat32S : EnvOK Try.prog E_w_szFloat32S := (mkE_ok tab_ok mixed AllF.nil AllX.nil)
theorem ev_w_szFloat32S (a : (List Nat)) (left : Int) : evalF E_w_szFloat32S noL Try.f63 [.ro false (.slice (.flt .f32)), .ro false (.int .i64)] (.one false (.int .i64)) (a, left, ()) = g_w_szFloat32S a left := by kernel_rfl
def m_w_szFloat32S : FM := { ps := [.ro false (.slice (.flt .f32)), .ro false (.int .i64)], res := .one false (.int .i64), run := fun x => some (t_w_szFloat32S x.1 x.2.1) }
set_option maxRecDepth 4000 in
theorem ok_w_szFloat32S : FmOK Try.prog 63 m_w_szFloat32S := @FmOK.made Try.prog E_w_szFloat32S ek_w_szFloat32S 63 Try.f63 noL m_w_szFloat32S Try.func63 (by kernel_rfl) (Loops.none (by kernel_rfl)) fun ds out _ hr => by obtain ⟨a, left, ⟨⟩⟩ := ds; exact (ev_w_szFloat32S a left).trans ((q_w_szFloat32S a left).trans hr)

def E_w_szSkinPoint : Tabs := (mkE tab [(62, m_w_szInt64S), (63, m_w_szFloat32S)] [])
set_option maxRecDepth 4000 in
theorem ek_w_szSkinPoint : EnvOK Try.prog E_w_szSkinPoint := (mkE_ok tab_ok mixed (AllF.cons ok_w_szInt64S (AllF.cons ok_w_szFloat32S AllF.nil)) AllX.nil)
theorem ev_w_szSkinPoint (a : dSkinPoint) (left : Int) : evalF E_w_szSkinPoint noL Try.f34 [.ro true tSkinPoint, .ro false (.int .i64)] (.one false (.int .i64)) (a, left, ()) = g_w_szSkinPoint a left := by kernel_rfl
def m_w_szSkinPoint : FM := { ps := [.ro true tSkinPoint, .ro false (.int .i64)], res := .one false (.int .i64), run := fun x => some (t_w_szSkinPoint x.1 x.2.1) }
set_option maxRecDepth 4000 in
theorem ok_w_szSkinPoint : FmOK Try.prog 34 m_w_szSkinPoint := @FmOK.made Try.prog E_w_szSkinPoint ek_w_szSkinPoint 34 Try.f34 noL m_w_szSkinPoint Try.func34 (by kernel_rfl) (Loops.none (by kernel_rfl)) fun ds out _ hr => by obtain ⟨a, left, ⟨⟩⟩ := ds; exact (ev_w_szSkinPoint a left).trans ((q_w_szSkinPoint a left).trans hr)

def E_w_szSkinPointS : Tabs := (mkE tab [(34, m_w_szSkinPoint)] [])
set_option maxRecDepth 4000 in
theorem ek_w_szSkinPointS : EnvOK Try.prog E_w_szSkinPointS := (mkE_ok tab_ok mixed (AllF.cons ok_w_szSkinPoint AllF.nil) AllX.nil)
def lm_L_w_szSkinPointS_1 : LM := { mat := [], head := { slots := [(0, .dat false (.slice tSkinPoint)), (1, .dat false (.int .i64)), (4, .dat false (.int .i64)), (5, .dat false (.int .i64))], blks := [] }, out := { slots := [(1, .dat false (.int .i64)), (4, .dat false (.int .i64))], blks := [] }, ex := 0, rets := true, run := iter L_w_szSkinPointS_1 fuel }
def ll_w_szSkinPointS : List (Nat × LP) := [(5, .lm lm_L_w_szSkinPointS_1)]
theorem rd_L_w_szSkinPointS_1 (rec' : ((List dSkinPoint) × Int × Int × Int × Unit) × (Unit) → Option (Bool × ((Int × Int × Unit) × (Unit)))) (a : (List dSkinPoint)) (left : Int) (t4 : Int) (i : Int) : round E_w_szSkinPointS (lookL ll_w_szSkinPointS) lm_L_w_szSkinPointS_1 27 (loopAt Try.f12 0) rec' ((a, left, t4, i, ()), (())) = L_w_szSkinPointS_1 rec' ((a, left, t4, i, ()), (())) := by kernel_rfl
theorem lo_w_szSkinPointS : Loops E_w_szSkinPointS (lookL ll_w_szSkinPointS) Try.f12 := Loops.list (by kernel_rfl) (by kernel_rfl) ⟨LoopOK.iter (step := L_w_szSkinPointS_1) (N := fun _ => fuel) (fun rec' x => by obtain ⟨⟨a, left, t4, i, ⟨⟩⟩, ⟨⟨⟩⟩⟩ := x; exact rd_L_w_szSkinPointS_1 rec' a left t4 i) fun _ => rfl, trivial⟩
theorem ev_w_szSkinPointS (a : (List dSkinPoint)) (left : Int) : evalF E_w_szSkinPointS (lookL ll_w_szSkinPointS) Try.f12 [.ro false (.slice tSkinPoint), .ro false (.int .i64)] (.one false (.int .i64)) (a, left, ()) = g_w_szSkinPointS a left := by kernel_rfl
def m_w_szSkinPointS : FM := { ps := [.ro false (.slice tSkinPoint), .ro false (.int .i64)], res := .one false (.int .i64), run := fun x => g_w_szSkinPointS x.1 x.2.1 }
set_option maxRecDepth 4000 in
theorem ok_w_szSkinPointS : FmOK Try.prog 12 m_w_szSkinPointS := @FmOK.made Try.prog E_w_szSkinPointS ek_w_szSkinPointS 12 Try.f12 (lookL ll_w_szSkinPointS) m_w_szSkinPointS Try.func12 (by kernel_rfl) lo_w_szSkinPointS fun ds out _ hr => by obtain ⟨a, left, ⟨⟩⟩ := ds; exact (ev_w_szSkinPointS a left).trans hr

def E_w_toVector : Tabs := (mkE tab [] [])
set_option maxRecDepth 4000 in
theorem ek_w_toVector : EnvOK Try.prog E_w_toVector := (mkE_ok tab_ok mixed AllF.nil AllX.nil)
theorem ev_w_toVector (a : dVec) : evalF E_w_toVector noL Try.f67 [.ro true tVec] (.one true tVec) (a, ()) = g_w_toVector a := by kernel_rfl
def m_w_toVector : FM := { ps := [.ro true tVec], res := .one true tVec, run := fun x => some (t_w_toVector x.1) }
set_option maxRecDepth 4000 in
theorem ok_w_toVector : FmOK Try.prog 67 m_w_toVector := @FmOK.made Try.prog E_w_toVector ek_w_toVector 67 Try.f67 noL m_w_toVector Try.func67 (by kernel_rfl) (Loops.none (by kernel_rfl)) fun ds out _ hr => by obtain ⟨a, ⟨⟩⟩ := ds; exact (ev_w_toVector a).trans ((q_w_toVector a).trans hr)

def E_w_toBone : Tabs := (mkE tab [(67, m_w_toVector)] [])
set_option maxRecDepth 4000 in
theorem ek_w_toBone : EnvOK Try.prog E_w_toBone := (mkE_ok tab_ok mixed (AllF.cons ok_w_toVector AllF.nil) AllX.nil)
theorem ev_w_toBone (a : dRootKey) : evalF E_w_toBone noL Try.f66 [.ro true tRootKey] (.one true tRootKey) (a, ()) = g_w_toBone a := by kernel_rfl
def m_w_toBone : FM := { ps := [.ro true tRootKey], res := .one true tRootKey, run := fun x => some (t_w_toBone x.1) }
set_option maxRecDepth 4000 in
theorem ok_w_toBone : FmOK Try.prog 66 m_w_toBone := @FmOK.made Try.prog E_w_toBone ek_w_toBone 66 Try.f66 noL m_w_toBone Try.func66 (by kernel_rfl) (Loops.none (by kernel_rfl)) fun ds out _ hr => by obtain ⟨a, ⟨⟩⟩ := ds; exact (ev_w_toBone a).trans ((q_w_toBone a).trans hr)

def E_w_toBoneS : Tabs := (mkE tab [(66, m_w_toBone)] [])
set_option maxRecDepth 4000 in
theorem ek_w_toBoneS : EnvOK Try.prog E_w_toBoneS := (mkE_ok tab_ok mixed (AllF.cons ok_w_toBone AllF.nil) AllX.nil)
def lm_L_w_toBoneS_1 : LM := { mat := [], head := { slots := [(0, .dat false (.slice tRootKey)), (3, .cst (.sl (.row 0))), (4, .dat false (.int .i64))], blks := [.row false tRootKey] }, out := { slots := [(3, .cst (.sl (.row 0)))], blks := [.row false tRootKey] }, ex := 0, rets := false, run := iter L_w_toBoneS_1 fuel }
def ll_w_toBoneS : List (Nat × LP) := [(3, .lm lm_L_w_toBoneS_1)]
theorem rd_L_w_toBoneS_1 (rec' : ((List dRootKey) × Int × Unit) × ((List dRootKey) × Unit) → Option ((Unit) × ((List dRootKey) × Unit))) (a : (List dRootKey)) (i : Int) (r0 : (List dRootKey)) : round E_w_toBoneS (lookL ll_w_toBoneS) lm_L_w_toBoneS_1 23 (loopAt Try.f38 0) rec' ((a, i, ()), (r0, ())) = L_w_toBoneS_1 rec' ((a, i, ()), (r0, ())) := by kernel_rfl
theorem lo_w_toBoneS : Loops E_w_toBoneS (lookL ll_w_toBoneS) Try.f38 := Loops.list (by kernel_rfl) (by kernel_rfl) ⟨LoopOK.iter (step := L_w_toBoneS_1) (N := fun _ => fuel) (fun rec' x => by obtain ⟨⟨a, i, ⟨⟩⟩, ⟨r0, ⟨⟩⟩⟩ := x; exact rd_L_w_toBoneS_1 rec' a i r0) fun _ => rfl, trivial⟩
theorem ev_w_toBoneS (a : (List dRootKey)) : evalF E_w_toBoneS (lookL ll_w_toBoneS) Try.f38 [.ro false (.slice tRootKey)] (.one false (.slice tRootKey)) (a, ()) = g_w_toBoneS a := by kernel_rfl
def m_w_toBoneS : FM := { ps := [.ro false (.slice tRootKey)], res := .one false (.slice tRootKey), run := fun x => g_w_toBoneS x.1 }
set_option maxRecDepth 4000 in
theorem ok_w_toBoneS : FmOK Try.prog 38 m_w_toBoneS := @FmOK.made Try.prog E_w_toBoneS ek_w_toBoneS 38 Try.f38 (lookL ll_w_toBoneS) m_w_toBoneS Try.func38 (by kernel_rfl) lo_w_toBoneS fun ds out _ hr => by obtain ⟨a, ⟨⟩⟩ := ds; exact (ev_w_toBoneS a).trans hr

def E_w_toSkeleton : Tabs := (mkE tab [(38, m_w_toBoneS)] [])
set_option maxRecDepth 4000 in
theorem ek_w_toSkeleton : EnvOK Try.prog E_w_toSkeleton := (mkE_ok tab_ok mixed (AllF.cons ok_w_toBoneS AllF.nil) AllX.nil)
theorem ev_w_toSkeleton (a : dSkel) : evalF E_w_toSkeleton noL Try.f14 [.ro true tSkel] (.one true tSkel) (a, ()) = g_w_toSkeleton a := by kernel_rfl
def m_w_toSkeleton : FM := { ps := [.ro true tSkel], res := .one true tSkel, run := fun x => g_w_toSkeleton x.1 }
set_option maxRecDepth 4000 in
theorem ok_w_toSkeleton : FmOK Try.prog 14 m_w_toSkeleton := @FmOK.made Try.prog E_w_toSkeleton ek_w_toSkeleton 14 Try.f14 noL m_w_toSkeleton Try.func14 (by kernel_rfl) (Loops.none (by kernel_rfl)) fun ds out _ hr => by obtain ⟨a, ⟨⟩⟩ := ds; exact (ev_w_toSkeleton a).trans hr

def E_w_toInt64S : Tabs := (mkE tab [] [])
set_option maxRecDepth 4000 in
theorem ek_w_toInt64S : EnvOK Try.prog E_w_toInt64S := (mkE_ok tab_ok mixed AllF.nil AllX.nil)
def lm_L_w_toInt64S_1 : LM := { mat := [], head := { slots := [(0, .dat false (.slice (.int .i64))), (3, .cst (.sl (.row 0))), (4, .dat false (.int .i64))], blks := [.row false (.int .i64)] }, out := { slots := [(3, .cst (.sl (.row 0)))], blks := [.row false (.int .i64)] }, ex := 0, rets := false, run := iter L_w_toInt64S_1 fuel }
def ll_w_toInt64S : List (Nat × LP) := [(3, .lm lm_L_w_toInt64S_1)]
theorem rd_L_w_toInt64S_1 (rec' : ((List Int) × Int × Unit) × ((List Int) × Unit) → Option ((Unit) × ((List Int) × Unit))) (a : (List Int)) (i : Int) (r0 : (List Int)) : round E_w_toInt64S (lookL ll_w_toInt64S) lm_L_w_toInt64S_1 22 (loopAt Try.f68 0) rec' ((a, i, ()), (r0, ())) = L_w_toInt64S_1 rec' ((a, i, ()), (r0, ())) := by kernel_rfl
theorem lo_w_toInt64S : Loops E_w_toInt64S (lookL ll_w_toInt64S) Try.f68 := Loops.list (by kernel_rfl) (by kernel_rfl) ⟨LoopOK.iter (step := L_w_toInt64S_1) (N := fun _ => fuel) (fun rec' x => by obtain ⟨⟨a, i, ⟨⟩⟩, ⟨r0, ⟨⟩⟩⟩ := x; exact rd_L_w_toInt64S_1 rec' a i r0) fun _ => rfl, trivial⟩
theorem ev_w_toInt64S (a : (List Int)) : evalF E_w_toInt64S (lookL ll_w_toInt64S) Try.f68 [.ro false (.slice (.int .i64))] (.one false (.slice (.int .i64))) (a, ()) = g_w_toInt64S a := by kernel_rfl
def m_w_toInt64S : FM := { ps := [.ro false (.slice (.int .i64))], res := .one false (.slice (.int .i64)), run := fun x => g_w_toInt64S x.1 }
set_option maxRecDepth 4000 in
theorem ok_w_toInt64S : FmOK Try.prog 68 m_w_toInt64S := @FmOK.made Try.prog E_w_toInt64S ek_w_toInt64S 68 Try.f68 (lookL ll_w_toInt64S) m_w_toInt64S Try.func68 (by kernel_rfl) lo_w_toInt64S fun ds out _ hr => by obtain ⟨a, ⟨⟩⟩ := ds; exact (ev_w_toInt64S a).trans hr

def E_w_toFloat32S : Tabs := (mkE tab [] [])
set_option maxRecDepth 4000 in
theorem ek_w_toFloat32S : EnvOK Try.prog E_w_toFloat32S := (mkE_ok tab_ok mixed AllF.nil AllX.nil)
def lm_L_w_toFloat32S_1 : LM := { mat := [], head := { slots := [(0, .dat false (.slice (.flt .f32))), (3, .cst (.sl (.row 0))), (4, .dat false (.int .i64))], blks := [.row false (.flt .f32)] }, out := { slots := [(3, .cst (.sl (.row 0)))], blks := [.row false (.flt .f32)] }, ex := 0, rets := false, run := iter L_w_toFloat32S_1 fuel }
def ll_w_toFloat32S : List (Nat × LP) := [(3, .lm lm_L_w_toFloat32S_1)]
theorem rd_L_w_toFloat32S_1 (rec' : ((List Nat) × Int × Unit) × ((List Nat) × Unit) → Option ((Unit) × ((List Nat) × Unit))) (a : (List Nat)) (i : Int) (r0 : (List Nat)) : round E_w_toFloat32S (lookL ll_w_toFloat32S) lm_L_w_toFloat32S_1 22 (loopAt Try.f69 0) rec' ((a, i, ()), (r0, ())) = L_w_toFloat32S_1 rec' ((a, i, ()), (r0, ())) := by kernel_rfl
theorem lo_w_toFloat32S : Loops E_w_toFloat32S (lookL ll_w_toFloat32S) Try.f69 := Loops.list (by kernel_rfl) (by kernel_rfl) ⟨LoopOK.iter (step := L_w_toFloat32S_1) (N := fun _ => fuel) (fun rec' x => by obtain ⟨⟨a, i, ⟨⟩⟩, ⟨r0, ⟨⟩⟩⟩ := x; exact rd_L_w_toFloat32S_1 rec' a i r0) fun _ => rfl, trivial⟩
theorem ev_w_toFloat32S (a : (List Nat)) : evalF E_w_toFloat32S (lookL ll_w_toFloat32S) Try.f69 [.ro false (.slice (.flt .f32))] (.one false (.slice (.flt .f32))) (a, ()) = g_w_toFloat32S a := by kernel_rfl
def m_w_toFloat32S : FM := { ps := [.ro false (.slice (.flt .f32))], res := .one false (.slice (.flt .f32)), run := fun x => g_w_toFloat32S x.1 }
set_option maxRecDepth 4000 in
theorem ok_w_toFloat32S : FmOK Try.prog 69 m_w_toFloat32S := @FmOK.made Try.prog E_w_toFloat32S ek_w_toFloat32S 69 Try.f69 (lookL ll_w_toFloat32S) m_w_toFloat32S Try.func69 (by kernel_rfl) lo_w_toFloat32S fun ds out _ hr => by obtain ⟨a, ⟨⟩⟩ := ds; exact (ev_w_toFloat32S a).trans hr

def E_w_toSkinPoint : Tabs := (mkE tab [(67, m_w_toVector), (68, m_w_toInt64S), (69, m_w_toFloat32S)] [])
set_option maxRecDepth 4000 in
theorem ek_w_toSkinPoint : EnvOK Try.prog E_w_toSkinPoint := (mkE_ok tab_ok mixed (AllF.cons ok_w_toVector (AllF.cons ok_w_toInt64S (AllF.cons ok_w_toFloat32S AllF.nil))) AllX.nil)
theorem ev_w_toSkinPoint (a : dSkinPoint) : evalF E_w_toSkinPoint noL Try.f39 [.ro true tSkinPoint] (.one true tSkinPoint) (a, ()) = g_w_toSkinPoint a := by kernel_rfl
def m_w_toSkinPoint : FM := { ps := [.ro true tSkinPoint], res := .one true tSkinPoint, run := fun x => g_w_toSkinPoint x.1 }
set_option maxRecDepth 4000 in
theorem ok_w_toSkinPoint : FmOK Try.prog 39 m_w_toSkinPoint := @FmOK.made Try.prog E_w_toSkinPoint ek_w_toSkinPoint 39 Try.f39 noL m_w_toSkinPoint Try.func39 (by kernel_rfl) (Loops.none (by kernel_rfl)) fun ds out _ hr => by obtain ⟨a, ⟨⟩⟩ := ds; exact (ev_w_toSkinPoint a).trans hr

def E_w_toSkinPointS : Tabs := (mkE tab [(39, m_w_toSkinPoint)] [])
set_option maxRecDepth 4000 in
theorem ek_w_toSkinPointS : EnvOK Try.prog E_w_toSkinPointS := (mkE_ok tab_ok mixed (AllF.cons ok_w_toSkinPoint AllF.nil) AllX.nil)
def lm_L_w_toSkinPointS_1 : LM := { mat := [], head := { slots := [(0, .dat false (.slice tSkinPoint)), (3, .cst (.sl (.row 0))), (4, .dat false (.int .i64))], blks := [.row false tSkinPoint] }, out := { slots := [(3, .cst (.sl (.row 0)))], blks := [.row false tSkinPoint] }, ex := 0, rets := false, run := iter L_w_toSkinPointS_1 fuel }
def ll_w_toSkinPointS : List (Nat × LP) := [(3, .lm lm_L_w_toSkinPointS_1)]
theorem rd_L_w_toSkinPointS_1 (rec' : ((List dSkinPoint) × Int × Unit) × ((List dSkinPoint) × Unit) → Option ((Unit) × ((List dSkinPoint) × Unit))) (a : (List dSkinPoint)) (i : Int) (r0 : (List dSkinPoint)) : round E_w_toSkinPointS (lookL ll_w_toSkinPointS) lm_L_w_toSkinPointS_1 23 (loopAt Try.f15 0) rec' ((a, i, ()), (r0, ())) = L_w_toSkinPointS_1 rec' ((a, i, ()), (r0, ())) := by kernel_rfl
theorem lo_w_toSkinPointS : Loops E_w_toSkinPointS (lookL ll_w_toSkinPointS) Try.f15 := Loops.list (by kernel_rfl) (by kernel_rfl) ⟨LoopOK.iter (step := L_w_toSkinPointS_1) (N := fun _ => fuel) (fun rec' x => by obtain ⟨⟨a, i, ⟨⟩⟩, ⟨r0, ⟨⟩⟩⟩ := x; exact rd_L_w_toSkinPointS_1 rec' a i r0) fun _ => rfl, trivial⟩
theorem ev_w_toSkinPointS (a : (List dSkinPoint)) : evalF E_w_toSkinPointS (lookL ll_w_toSkinPointS) Try.f15 [.ro false (.slice tSkinPoint)] (.one false (.slice tSkinPoint)) (a, ()) = g_w_toSkinPointS a := by kernel_rfl
def m_w_toSkinPointS : FM := { ps := [.ro false (.slice tSkinPoint)], res := .one false (.slice tSkinPoint), run := fun x => g_w_toSkinPointS x.1 }
set_option maxRecDepth 4000 in
theorem ok_w_toSkinPointS : FmOK Try.prog 15 m_w_toSkinPointS := @FmOK.made Try.prog E_w_toSkinPointS ek_w_toSkinPointS 15 Try.f15 (lookL ll_w_toSkinPointS) m_w_toSkinPointS Try.func15 (by kernel_rfl) lo_w_toSkinPointS fun ds out _ hr => by obtain ⟨a, ⟨⟩⟩ := ds; exact (ev_w_toSkinPointS a).trans hr

def E_s_l00In : Tabs := (mkE tab [] [])
set_option maxRecDepth 4000 in
theorem ek_s_l00In : EnvOK Try.prog E_s_l00In := (mkE_ok tab_ok mixed AllF.nil AllX.nil)
theorem ev_s_l00In (n : Int) (low : Int) (high : Int) : evalF E_s_l00In noL Try.f49 [.ro false (.int .i64), .ro false (.int .i64), .ro false (.int .i64)] (.one false .bool) (n, low, high, ()) = g_s_l00In n low high := by kernel_rfl
def m_s_l00In : FM := { ps := [.ro false (.int .i64), .ro false (.int .i64), .ro false (.int .i64)], res := .one false .bool, run := fun x => some (t_s_l00In x.1 x.2.1 x.2.2.1) }
set_option maxRecDepth 4000 in
theorem ok_s_l00In : FmOK Try.prog 49 m_s_l00In := @FmOK.made Try.prog E_s_l00In ek_s_l00In 49 Try.f49 noL m_s_l00In Try.func49 (by kernel_rfl) (Loops.none (by kernel_rfl)) fun ds out _ hr => by obtain ⟨n, low, high, ⟨⟩⟩ := ds; exact (ev_s_l00In n low high).trans ((q_s_l00In n low high).trans hr)

def E_s_l03Is : Tabs := (mkE tab [(49, m_s_l00In)] [])
set_option maxRecDepth 4000 in
theorem ek_s_l03Is : EnvOK Try.prog E_s_l03Is := (mkE_ok tab_ok mixed (AllF.cons ok_s_l00In AllF.nil) AllX.nil)
def lm_L_s_l03Is_1 : LM := { mat := [], head := { slots := [(0, .dat false (.ref tSkel)), (2, .dat false .bool), (3, .dat false (.int .i64)), (4, .dat false (.int .i64))], blks := [] }, out := { slots := [(2, .dat false .bool)], blks := [] }, ex := 0, rets := true, run := iter L_s_l03Is_1 fuel }
def ll_s_l03Is : List (Nat × LP) := [(5, .lm lm_L_s_l03Is_1)]
theorem rd_L_s_l03Is_1 (rec' : (dSkel × Bool × Int × Int × Unit) × (Unit) → Option (Bool × ((Bool × Unit) × (Unit)))) (k : dSkel) (t2 : Bool) (n : Int) (i : Int) : round E_s_l03Is (lookL ll_s_l03Is) lm_L_s_l03Is_1 40 (loopAt Try.f35 0) rec' ((k, t2, n, i, ()), (())) = L_s_l03Is_1 rec' ((k, t2, n, i, ()), (())) := by kernel_rfl
theorem lo_s_l03Is : Loops E_s_l03Is (lookL ll_s_l03Is) Try.f35 := Loops.list (by kernel_rfl) (by kernel_rfl) ⟨LoopOK.iter (step := L_s_l03Is_1) (N := fun _ => fuel) (fun rec' x => by obtain ⟨⟨k, t2, n, i, ⟨⟩⟩, ⟨⟨⟩⟩⟩ := x; exact rd_L_s_l03Is_1 rec' k t2 n i) fun _ => rfl, trivial⟩
theorem ev_s_l03Is (k : dSkel) : evalF E_s_l03Is (lookL ll_s_l03Is) Try.f35 [.rptr tSkel] (.one false .bool) (k, ()) = g_s_l03Is k := by kernel_rfl
def m_s_l03Is : FM := { ps := [.rptr tSkel], res := .one false .bool, run := fun x => g_s_l03Is x.1 }
set_option maxRecDepth 4000 in
theorem ok_s_l03Is : FmOK Try.prog 35 m_s_l03Is := @FmOK.made Try.prog E_s_l03Is ek_s_l03Is 35 Try.f35 (lookL ll_s_l03Is) m_s_l03Is Try.func35 (by kernel_rfl) lo_s_l03Is fun ds out _ hr => by obtain ⟨k, ⟨⟩⟩ := ds; exact (ev_s_l03Is k).trans hr

def E_s_l09Point : Tabs := (mkE tab [] [])
set_option maxRecDepth 4000 in
theorem ek_s_l09Point : EnvOK Try.prog E_s_l09Point := (mkE_ok tab_ok mixed AllF.nil AllX.nil)
theorem ev_s_l09Point (xx : dSkinPoint) : evalF E_s_l09Point noL Try.f64 [.rptr tSkinPoint] (.one false .bool) (xx, ()) = g_s_l09Point xx := by kernel_rfl
def m_s_l09Point : FM := { ps := [.rptr tSkinPoint], res := .one false .bool, run := fun x => some (t_s_l09Point x.1) }
set_option maxRecDepth 4000 in
theorem ok_s_l09Point : FmOK Try.prog 64 m_s_l09Point := @FmOK.made Try.prog E_s_l09Point ek_s_l09Point 64 Try.f64 noL m_s_l09Point Try.func64 (by kernel_rfl) (Loops.none (by kernel_rfl)) fun ds out _ hr => by obtain ⟨xx, ⟨⟩⟩ := ds; exact (ev_s_l09Point xx).trans ((q_s_l09Point xx).trans hr)

def E_s_l00Rises : Tabs := (mkE tab [(49, m_s_l00In)] [])
set_option maxRecDepth 4000 in
theorem ek_s_l00Rises : EnvOK Try.prog E_s_l00Rises := (mkE_ok tab_ok mixed (AllF.cons ok_s_l00In AllF.nil) AllX.nil)
def lm_L_s_l00Rises_1 : LM := { mat := [], head := { slots := [(0, .dat false (.slice (.int .i64))), (1, .dat false (.int .i64)), (2, .dat false (.int .i64)), (6, .dat false .bool), (7, .dat false (.int .i64))], blks := [] }, out := { slots := [(6, .dat false .bool)], blks := [] }, ex := 0, rets := true, run := iter L_s_l00Rises_1 fuel }
def ll_s_l00Rises : List (Nat × LP) := [(2, .lm lm_L_s_l00Rises_1)]
theorem rd_L_s_l00Rises_1 (rec' : ((List Int) × Int × Int × Bool × Int × Unit) × (Unit) → Option (Bool × ((Bool × Unit) × (Unit)))) (list : (List Int)) (low : Int) (high : Int) (t6 : Bool) (i : Int) : round E_s_l00Rises (lookL ll_s_l00Rises) lm_L_s_l00Rises_1 38 (loopAt Try.f65 0) rec' ((list, low, high, t6, i, ()), (())) = L_s_l00Rises_1 rec' ((list, low, high, t6, i, ()), (())) := by kernel_rfl
theorem lo_s_l00Rises : Loops E_s_l00Rises (lookL ll_s_l00Rises) Try.f65 := Loops.list (by kernel_rfl) (by kernel_rfl) ⟨LoopOK.iter (step := L_s_l00Rises_1) (N := fun _ => fuel) (fun rec' x => by obtain ⟨⟨list, low, high, t6, i, ⟨⟩⟩, ⟨⟨⟩⟩⟩ := x; exact rd_L_s_l00Rises_1 rec' list low high t6 i) fun _ => rfl, trivial⟩
theorem ev_s_l00Rises (list : (List Int)) (low : Int) (high : Int) : evalF E_s_l00Rises (lookL ll_s_l00Rises) Try.f65 [.ro false (.slice (.int .i64)), .ro false (.int .i64), .ro false (.int .i64)] (.one false .bool) (list, low, high, ()) = g_s_l00Rises list low high := by kernel_rfl
def m_s_l00Rises : FM := { ps := [.ro false (.slice (.int .i64)), .ro false (.int .i64), .ro false (.int .i64)], res := .one false .bool, run := fun x => g_s_l00Rises x.1 x.2.1 x.2.2.1 }
set_option maxRecDepth 4000 in
theorem ok_s_l00Rises : FmOK Try.prog 65 m_s_l00Rises := @FmOK.made Try.prog E_s_l00Rises ek_s_l00Rises 65 Try.f65 (lookL ll_s_l00Rises) m_s_l00Rises Try.func65 (by kernel_rfl) lo_s_l00Rises fun ds out _ hr => by obtain ⟨list, low, high, ⟨⟩⟩ := ds; exact (ev_s_l00Rises list low high).trans hr

def E_s_l09Skin : Tabs := (mkE tab [(64, m_s_l09Point), (65, m_s_l00Rises)] [])
set_option maxRecDepth 4000 in
theorem ek_s_l09Skin : EnvOK Try.prog E_s_l09Skin := (mkE_ok tab_ok mixed (AllF.cons ok_s_l09Point (AllF.cons ok_s_l00Rises AllF.nil)) AllX.nil)
def lm_L_s_l09Skin_1 : LM := { mat := [], head := { slots := [(0, .dat false (.ref tSkel)), (1, .dat false (.slice tSkinPoint)), (4, .dat false .bool), (7, .dat false (.int .i64)), (8, .dat false (.int .i64))], blks := [] }, out := { slots := [(1, .dat false (.slice tSkinPoint)), (4, .dat false .bool)], blks := [] }, ex := 0, rets := true, run := iter L_s_l09Skin_1 fuel }
def ll_s_l09Skin : List (Nat × LP) := [(2, .lm lm_L_s_l09Skin_1)]
theorem rd_L_s_l09Skin_1 (rec' : (dSkel × (List dSkinPoint) × Bool × Int × Int × Unit) × (Unit) → Option (Bool × (((List dSkinPoint) × Bool × Unit) × (Unit)))) (k : dSkel) (points : (List dSkinPoint)) (t4 : Bool) (t7 : Int) (t8 : Int) : round E_s_l09Skin (lookL ll_s_l09Skin) lm_L_s_l09Skin_1 35 (loopAt Try.f36 0) rec' ((k, points, t4, t7, t8, ()), (())) = L_s_l09Skin_1 rec' ((k, points, t4, t7, t8, ()), (())) := by kernel_rfl
theorem lo_s_l09Skin : Loops E_s_l09Skin (lookL ll_s_l09Skin) Try.f36 := Loops.list (by kernel_rfl) (by kernel_rfl) ⟨LoopOK.iter (step := L_s_l09Skin_1) (N := fun _ => fuel) (fun rec' x => by obtain ⟨⟨k, points, t4, t7, t8, ⟨⟩⟩, ⟨⟨⟩⟩⟩ := x; exact rd_L_s_l09Skin_1 rec' k points t4 t7 t8) fun _ => rfl, trivial⟩
theorem ev_s_l09Skin (k : dSkel) (points : (List dSkinPoint)) : evalF E_s_l09Skin (lookL ll_s_l09Skin) Try.f36 [.rptr tSkel, .ro false (.slice tSkinPoint)] (.one false .bool) (k, points, ()) = g_s_l09Skin k points := by kernel_rfl
def m_s_l09Skin : FM := { ps := [.rptr tSkel, .ro false (.slice tSkinPoint)], res := .one false .bool, run := fun x => g_s_l09Skin x.1 x.2.1 }
set_option maxRecDepth 4000 in
theorem ok_s_l09Skin : FmOK Try.prog 36 m_s_l09Skin := @FmOK.made Try.prog E_s_l09Skin ek_s_l09Skin 36 Try.f36 (lookL ll_s_l09Skin) m_s_l09Skin Try.func36 (by kernel_rfl) lo_s_l09Skin fun ds out _ hr => by obtain ⟨k, points, ⟨⟩⟩ := ds; exact (ev_s_l09Skin k points).trans hr

def E_s_l00Put : Tabs := (mkE tab [] [])
set_option maxRecDepth 4000 in
theorem ek_s_l00Put : EnvOK Try.prog E_s_l00Put := (mkE_ok tab_ok mixed AllF.nil AllX.nil)
def lm_L_s_l00Put_1 : LM := { mat := [], head := { slots := [(0, .dat false (.slice (.int .i64))), (1, .dat false (.int .i64)), (5, .cst (.sl (.row 0))), (6, .dat false .bool), (7, .dat false (.int .i64))], blks := [.row false (.int .i64)] }, out := { slots := [(1, .dat false (.int .i64)), (5, .cst (.sl (.row 0))), (6, .dat false .bool)], blks := [.row false (.int .i64)] }, ex := 0, rets := false, run := iter L_s_l00Put_1 fuel }
def ll_s_l00Put : List (Nat × LP) := [(4, .lm lm_L_s_l00Put_1)]
theorem rd_L_s_l00Put_1 (rec' : ((List Int) × Int × Bool × Int × Unit) × ((List Int) × Unit) → Option ((Int × Bool × Unit) × ((List Int) × Unit))) (list : (List Int)) (n : Int) (done : Bool) (i : Int) (r0 : (List Int)) : round E_s_l00Put (lookL ll_s_l00Put) lm_L_s_l00Put_1 49 (loopAt Try.f37 0) rec' ((list, n, done, i, ()), (r0, ())) = L_s_l00Put_1 rec' ((list, n, done, i, ()), (r0, ())) := by kernel_rfl
theorem lo_s_l00Put : Loops E_s_l00Put (lookL ll_s_l00Put) Try.f37 := Loops.list (by kernel_rfl) (by kernel_rfl) ⟨LoopOK.iter (step := L_s_l00Put_1) (N := fun _ => fuel) (fun rec' x => by obtain ⟨⟨list, n, done, i, ⟨⟩⟩, ⟨r0, ⟨⟩⟩⟩ := x; exact rd_L_s_l00Put_1 rec' list n done i r0) fun _ => rfl, trivial⟩
theorem ev_s_l00Put (list : (List Int)) (n : Int) : evalF E_s_l00Put (lookL ll_s_l00Put) Try.f37 [.ro false (.slice (.int .i64)), .ro false (.int .i64)] (.one false (.slice (.int .i64))) (list, n, ()) = g_s_l00Put list n := by kernel_rfl
def m_s_l00Put : FM := { ps := [.ro false (.slice (.int .i64)), .ro false (.int .i64)], res := .one false (.slice (.int .i64)), run := fun x => g_s_l00Put x.1 x.2.1 }
set_option maxRecDepth 4000 in
theorem ok_s_l00Put : FmOK Try.prog 37 m_s_l00Put := @FmOK.made Try.prog E_s_l00Put ek_s_l00Put 37 Try.f37 (lookL ll_s_l00Put) m_s_l00Put Try.func37 (by kernel_rfl) lo_s_l00Put fun ds out _ hr => by obtain ⟨list, n, ⟨⟩⟩ := ds; exact (ev_s_l00Put list n).trans hr

def E_s_UsedBones : Tabs := (mkE tab [(35, m_s_l03Is), (36, m_s_l09Skin), (37, m_s_l00Put)] [])
set_option maxRecDepth 4000 in
theorem ek_s_UsedBones : EnvOK Try.prog E_s_UsedBones := (mkE_ok tab_ok mixed (AllF.cons ok_s_l03Is (AllF.cons ok_s_l09Skin (AllF.cons ok_s_l00Put AllF.nil))) AllX.nil)
def lm_L_s_UsedBones_2 : LM := { mat := [.mv 6 1], head := { slots := [(1, .dat false (.slice tSkinPoint)), (6, .cst (.sl (.row 1))), (7, .dat false (.int .i64)), (18, .dat false (.int .i64)), (19, .dat false (.int .i64)), (27, .dat false (.int .i64)), (28, .dat false (.int .i64))], blks := [.dead, .row false (.int .i64)] }, out := { slots := [(1, .dat false (.slice tSkinPoint)), (6, .cst (.sl (.row 1))), (18, .dat false (.int .i64)), (19, .dat false (.int .i64))], blks := [.dead, .row false (.int .i64)] }, ex := 2, rets := false, run := iter L_s_UsedBones_2 fuel }
def lm_L_s_UsedBones_1 : LM := { mat := [], head := { slots := [(1, .dat false (.slice tSkinPoint)), (6, .cst (.sl (.row 1))), (18, .dat false (.int .i64)), (19, .dat false (.int .i64))], blks := [.dead, .row false (.int .i64)] }, out := { slots := [(6, .cst (.sl (.row 1)))], blks := [.dead, .row false (.int .i64)] }, ex := 0, rets := false, run := iter L_s_UsedBones_1 fuel }
def ll_s_UsedBones : List (Nat × LP) := [(5, .lm lm_L_s_UsedBones_1), (8, .lm lm_L_s_UsedBones_2)]
theorem rd_L_s_UsedBones_2 (rec' : ((List dSkinPoint) × Int × Int × Int × Int × Int × Unit) × ((List Int) × Unit) → Option (((List dSkinPoint) × Int × Int × Unit) × ((List Int) × Unit))) (points : (List dSkinPoint)) (i : Int) (t18 : Int) (t19 : Int) (t27 : Int) (t28 : Int) (r1 : (List Int)) : round E_s_UsedBones (lookL ll_s_UsedBones) lm_L_s_UsedBones_2 44 (loopAt Try.f13 1) rec' ((points, i, t18, t19, t27, t28, ()), (r1, ())) = L_s_UsedBones_2 rec' ((points, i, t18, t19, t27, t28, ()), (r1, ())) := by kernel_rfl
theorem rd_L_s_UsedBones_1 (rec' : ((List dSkinPoint) × Int × Int × Unit) × ((List Int) × Unit) → Option ((Unit) × ((List Int) × Unit))) (points : (List dSkinPoint)) (t18 : Int) (t19 : Int) (r1 : (List Int)) : round E_s_UsedBones (lookL ll_s_UsedBones) lm_L_s_UsedBones_1 44 (loopAt Try.f13 0) rec' ((points, t18, t19, ()), (r1, ())) = L_s_UsedBones_1 rec' ((points, t18, t19, ()), (r1, ())) := by kernel_rfl
theorem lo_s_UsedBones : Loops E_s_UsedBones (lookL ll_s_UsedBones) Try.f13 := Loops.list (by kernel_rfl) (by kernel_rfl) ⟨LoopOK.iter (step := L_s_UsedBones_1) (N := fun _ => fuel) (fun rec' x => by obtain ⟨⟨points, t18, t19, ⟨⟩⟩, ⟨r1, ⟨⟩⟩⟩ := x; exact rd_L_s_UsedBones_1 rec' points t18 t19 r1) fun _ => rfl, LoopOK.iter (step := L_s_UsedBones_2) (N := fun _ => fuel) (fun rec' x => by obtain ⟨⟨points, i, t18, t19, t27, t28, ⟨⟩⟩, ⟨r1, ⟨⟩⟩⟩ := x; exact rd_L_s_UsedBones_2 rec' points i t18 t19 t27 t28 r1) fun _ => rfl, trivial⟩
theorem ev_s_UsedBones (k : dSkel) (points : (List dSkinPoint)) : evalF E_s_UsedBones (lookL ll_s_UsedBones) Try.f13 [.ro true tSkel, .ro false (.slice tSkinPoint)] (.tup [(false, (.slice (.int .i64))), (false, .bool)]) (k, points, ()) = g_s_UsedBones k points := by kernel_rfl
def m_s_UsedBones : FM := { ps := [.ro true tSkel, .ro false (.slice tSkinPoint)], res := .tup [(false, (.slice (.int .i64))), (false, .bool)], run := fun x => g_s_UsedBones x.1 x.2.1 }
set_option maxRecDepth 4000 in
theorem ok_s_UsedBones : FmOK Try.prog 13 m_s_UsedBones := @FmOK.made Try.prog E_s_UsedBones ek_s_UsedBones 13 Try.f13 (lookL ll_s_UsedBones) m_s_UsedBones Try.func13 (by kernel_rfl) lo_s_UsedBones fun ds out _ hr => by obtain ⟨k, points, ⟨⟩⟩ := ds; exact (ev_s_UsedBones k points).trans hr

def E_i_ValidSkeleton : Tabs := (mkE tab [] [])
set_option maxRecDepth 4000 in
theorem ek_i_ValidSkeleton : EnvOK Try.prog E_i_ValidSkeleton := (mkE_ok tab_ok mixed AllF.nil AllX.nil)
def lm_L_i_ValidSkeleton_1 : LM := { mat := [], head := { slots := [(2, .dat false .bool), (25, .dat false (.slice tRootKey)), (26, .dat false (.int .i64)), (27, .dat false (.int .i64))], blks := [.dead] }, out := { slots := [(2, .dat false .bool)], blks := [.dead] }, ex := 0, rets := true, run := iter L_i_ValidSkeleton_1 fuel }
def ll_i_ValidSkeleton : List (Nat × LP) := [(4, .lm lm_L_i_ValidSkeleton_1)]
theorem rd_L_i_ValidSkeleton_1 (rec' : (Bool × (List dRootKey) × Int × Int × Unit) × (Unit) → Option (Bool × ((Bool × Unit) × (Unit)))) (t2 : Bool) (t25 : (List dRootKey)) (t26 : Int) (t27 : Int) : round E_i_ValidSkeleton (lookL ll_i_ValidSkeleton) lm_L_i_ValidSkeleton_1 42 (loopAt Try.f70 0) rec' ((t2, t25, t26, t27, ()), (())) = L_i_ValidSkeleton_1 rec' ((t2, t25, t26, t27, ()), (())) := by kernel_rfl
theorem lo_i_ValidSkeleton : Loops E_i_ValidSkeleton (lookL ll_i_ValidSkeleton) Try.f70 := Loops.list (by kernel_rfl) (by kernel_rfl) ⟨LoopOK.iter (step := L_i_ValidSkeleton_1) (N := fun _ => fuel) (fun rec' x => by obtain ⟨⟨t2, t25, t26, t27, ⟨⟩⟩, ⟨⟨⟩⟩⟩ := x; exact rd_L_i_ValidSkeleton_1 rec' t2 t25 t26 t27) fun _ => rfl, trivial⟩
theorem ev_i_ValidSkeleton (k : dSkel) : evalF E_i_ValidSkeleton (lookL ll_i_ValidSkeleton) Try.f70 [.ro true tSkel] (.one false .bool) (k, ()) = g_i_ValidSkeleton k := by kernel_rfl
def m_i_ValidSkeleton : FM := { ps := [.ro true tSkel], res := .one false .bool, run := fun x => g_i_ValidSkeleton x.1 }
set_option maxRecDepth 4000 in
theorem ok_i_ValidSkeleton : FmOK Try.prog 70 m_i_ValidSkeleton := @FmOK.made Try.prog E_i_ValidSkeleton ek_i_ValidSkeleton 70 Try.f70 (lookL ll_i_ValidSkeleton) m_i_ValidSkeleton Try.func70 (by kernel_rfl) lo_i_ValidSkeleton fun ds out _ hr => by obtain ⟨k, ⟨⟩⟩ := ds; exact (ev_i_ValidSkeleton k).trans hr

def E_i_SkinPoint_isHeld : Tabs := (mkE tab [] [])
set_option maxRecDepth 4000 in
theorem ek_i_SkinPoint_isHeld : EnvOK Try.prog E_i_SkinPoint_isHeld := (mkE_ok tab_ok mixed AllF.nil AllX.nil)
theorem ev_i_SkinPoint_isHeld (p : dSkinPoint) : evalF E_i_SkinPoint_isHeld noL Try.f71 [.ro true tSkinPoint] (.one false .bool) (p, ()) = g_i_SkinPoint_isHeld p := by kernel_rfl
def m_i_SkinPoint_isHeld : FM := { ps := [.ro true tSkinPoint], res := .one false .bool, run := fun x => some (t_i_SkinPoint_isHeld x.1) }
set_option maxRecDepth 4000 in
theorem ok_i_SkinPoint_isHeld : FmOK Try.prog 71 m_i_SkinPoint_isHeld := @FmOK.made Try.prog E_i_SkinPoint_isHeld ek_i_SkinPoint_isHeld 71 Try.f71 noL m_i_SkinPoint_isHeld Try.func71 (by kernel_rfl) (Loops.none (by kernel_rfl)) fun ds out _ hr => by obtain ⟨p, ⟨⟩⟩ := ds; exact (ev_i_SkinPoint_isHeld p).trans ((q_i_SkinPoint_isHeld p).trans hr)

def E_i_IsSkin : Tabs := (mkE tab [(70, m_i_ValidSkeleton), (71, m_i_SkinPoint_isHeld)] [])
set_option maxRecDepth 4000 in
theorem ek_i_IsSkin : EnvOK Try.prog E_i_IsSkin := (mkE_ok tab_ok mixed (AllF.cons ok_i_ValidSkeleton (AllF.cons ok_i_SkinPoint_isHeld AllF.nil)) AllX.nil)
def lm_L_i_IsSkin_2 : LM := { mat := [], head := { slots := [(2, .cst (.ptr (.box 0 0))), (4, .dat false .bool), (7, .dat false (.int .i64)), (18, .dat false (.slice tSkinPoint)), (19, .dat false (.int .i64)), (20, .dat false (.int .i64)), (28, .dat false (.slice (.int .i64))), (29, .dat false (.int .i64)), (30, .dat false (.int .i64))], blks := [.box [.dat tSkel], .dead] }, out := { slots := [(2, .cst (.ptr (.box 0 0))), (4, .dat false .bool), (18, .dat false (.slice tSkinPoint)), (19, .dat false (.int .i64)), (20, .dat false (.int .i64))], blks := [.box [.dat tSkel], .dead] }, ex := 2, rets := true, run := iter L_i_IsSkin_2 fuel }
def lm_L_i_IsSkin_1 : LM := { mat := [], head := { slots := [(2, .cst (.ptr (.box 0 0))), (4, .dat false .bool), (18, .dat false (.slice tSkinPoint)), (19, .dat false (.int .i64)), (20, .dat false (.int .i64))], blks := [.box [.dat tSkel]] }, out := { slots := [(4, .dat false .bool)], blks := [.dead] }, ex := 0, rets := true, run := iter L_i_IsSkin_1 fuel }
def ll_i_IsSkin : List (Nat × LP) := [(4, .lm lm_L_i_IsSkin_1), (10, .lm lm_L_i_IsSkin_2)]
theorem rd_L_i_IsSkin_2 (rec' : (Bool × Int × (List dSkinPoint) × Int × Int × (List Int) × Int × Int × Unit) × ((dSkel × Unit) × Unit) → Option (Bool × ((Bool × (List dSkinPoint) × Int × Int × Unit) × ((dSkel × Unit) × Unit)))) (t4 : Bool) (last : Int) (t18 : (List dSkinPoint)) (t19 : Int) (t20 : Int) (t28 : (List Int)) (t29 : Int) (t30 : Int) (b0 : dSkel) : round E_i_IsSkin (lookL ll_i_IsSkin) lm_L_i_IsSkin_2 47 (loopAt Try.f40 1) rec' ((t4, last, t18, t19, t20, t28, t29, t30, ()), ((b0, ()), ())) = L_i_IsSkin_2 rec' ((t4, last, t18, t19, t20, t28, t29, t30, ()), ((b0, ()), ())) := by kernel_rfl
theorem rd_L_i_IsSkin_1 (rec' : (Bool × (List dSkinPoint) × Int × Int × Unit) × ((dSkel × Unit) × Unit) → Option (Bool × ((Bool × Unit) × (Unit)))) (t4 : Bool) (t18 : (List dSkinPoint)) (t19 : Int) (t20 : Int) (b0 : dSkel) : round E_i_IsSkin (lookL ll_i_IsSkin) lm_L_i_IsSkin_1 47 (loopAt Try.f40 0) rec' ((t4, t18, t19, t20, ()), ((b0, ()), ())) = L_i_IsSkin_1 rec' ((t4, t18, t19, t20, ()), ((b0, ()), ())) := by kernel_rfl
theorem lo_i_IsSkin : Loops E_i_IsSkin (lookL ll_i_IsSkin) Try.f40 := Loops.list (by kernel_rfl) (by kernel_rfl) ⟨LoopOK.iter (step := L_i_IsSkin_1) (N := fun _ => fuel) (fun rec' x => by obtain ⟨⟨t4, t18, t19, t20, ⟨⟩⟩, ⟨⟨b0, ⟨⟩⟩, ⟨⟩⟩⟩ := x; exact rd_L_i_IsSkin_1 rec' t4 t18 t19 t20 b0) fun _ => rfl, LoopOK.iter (step := L_i_IsSkin_2) (N := fun _ => fuel) (fun rec' x => by obtain ⟨⟨t4, last, t18, t19, t20, t28, t29, t30, ⟨⟩⟩, ⟨⟨b0, ⟨⟩⟩, ⟨⟩⟩⟩ := x; exact rd_L_i_IsSkin_2 rec' t4 last t18 t19 t20 t28 t29 t30 b0) fun _ => rfl, trivial⟩
theorem ev_i_IsSkin (k : dSkel) (points : (List dSkinPoint)) : evalF E_i_IsSkin (lookL ll_i_IsSkin) Try.f40 [.ro true tSkel, .ro false (.slice tSkinPoint)] (.one false .bool) (k, points, ()) = g_i_IsSkin k points := by kernel_rfl
def m_i_IsSkin : FM := { ps := [.ro true tSkel, .ro false (.slice tSkinPoint)], res := .one false .bool, run := fun x => g_i_IsSkin x.1 x.2.1 }
set_option maxRecDepth 4000 in
theorem ok_i_IsSkin : FmOK Try.prog 40 m_i_IsSkin := @FmOK.made Try.prog E_i_IsSkin ek_i_IsSkin 40 Try.f40 (lookL ll_i_IsSkin) m_i_IsSkin Try.func40 (by kernel_rfl) lo_i_IsSkin fun ds out _ hr => by obtain ⟨k, points, ⟨⟩⟩ := ds; exact (ev_i_IsSkin k points).trans hr





def E_i_UsedBones : Tabs := (mkE tab [(40, m_i_IsSkin)] [(41, m_sortInt64), (42, m_compactInt64)])
set_option maxRecDepth 4000 in
theorem ek_i_UsedBones : EnvOK Try.prog E_i_UsedBones := (mkE_ok tab_ok mixed (AllF.cons ok_i_IsSkin AllF.nil) (AllX.cons ok_sortInt64 (AllX.cons ok_compactInt64 AllX.nil)))
def lm_L_i_UsedBones_1 : LM := { mat := [.slot 6 (.int .i64)], head := { slots := [(6, .cst (.sl (.row 1))), (13, .dat false (.slice tSkinPoint)), (14, .dat false (.int .i64)), (15, .dat false (.int .i64))], blks := [.dead, .row false (.int .i64)] }, out := { slots := [(6, .cst (.sl (.row 1)))], blks := [.dead, .row false (.int .i64)] }, ex := 0, rets := false, run := iter L_i_UsedBones_1 fuel }
def ll_i_UsedBones : List (Nat × LP) := [(5, .lm lm_L_i_UsedBones_1)]
theorem rd_L_i_UsedBones_1 (rec' : ((List dSkinPoint) × Int × Int × Unit) × ((List Int) × Unit) → Option ((Unit) × ((List Int) × Unit))) (t13 : (List dSkinPoint)) (t14 : Int) (t15 : Int) (r1 : (List Int)) : round E_i_UsedBones (lookL ll_i_UsedBones) lm_L_i_UsedBones_1 28 (loopAt Try.f16 0) rec' ((t13, t14, t15, ()), (r1, ())) = L_i_UsedBones_1 rec' ((t13, t14, t15, ()), (r1, ())) := by kernel_rfl
theorem lo_i_UsedBones : Loops E_i_UsedBones (lookL ll_i_UsedBones) Try.f16 := Loops.list (by kernel_rfl) (by kernel_rfl) ⟨LoopOK.iter (step := L_i_UsedBones_1) (N := fun _ => fuel) (fun rec' x => by obtain ⟨⟨t13, t14, t15, ⟨⟩⟩, ⟨r1, ⟨⟩⟩⟩ := x; exact rd_L_i_UsedBones_1 rec' t13 t14 t15 r1) fun _ => rfl, trivial⟩
theorem ev_i_UsedBones (k : dSkel) (points : (List dSkinPoint)) : evalF E_i_UsedBones (lookL ll_i_UsedBones) Try.f16 [.ro true tSkel, .ro false (.slice tSkinPoint)] (.tup [(false, (.slice (.int .i64))), (false, .bool)]) (k, points, ()) = g_i_UsedBones k points := by kernel_rfl
def m_i_UsedBones : FM := { ps := [.ro true tSkel, .ro false (.slice tSkinPoint)], res := .tup [(false, (.slice (.int .i64))), (false, .bool)], run := fun x => g_i_UsedBones x.1 x.2.1 }
set_option maxRecDepth 4000 in
theorem ok_i_UsedBones : FmOK Try.prog 16 m_i_UsedBones := @FmOK.made Try.prog E_i_UsedBones ek_i_UsedBones 16 Try.f16 (lookL ll_i_UsedBones) m_i_UsedBones Try.func16 (by kernel_rfl) lo_i_UsedBones fun ds out _ hr => by obtain ⟨k, points, ⟨⟩⟩ := ds; exact (ev_i_UsedBones k points).trans hr

def E_w_eqInt64S : Tabs := (mkE tab [] [])
set_option maxRecDepth 4000 in
theorem ek_w_eqInt64S : EnvOK Try.prog E_w_eqInt64S := (mkE_ok tab_ok mixed AllF.nil AllX.nil)
def lm_L_w_eqInt64S_1 : LM := { mat := [], head := { slots := [(0, .dat false (.slice (.int .i64))), (1, .dat false (.slice (.int .i64))), (4, .dat false .bool), (5, .dat false (.int .i64))], blks := [] }, out := { slots := [(4, .dat false .bool)], blks := [] }, ex := 0, rets := true, run := iter L_w_eqInt64S_1 fuel }
def ll_w_eqInt64S : List (Nat × LP) := [(4, .lm lm_L_w_eqInt64S_1)]
theorem rd_L_w_eqInt64S_1 (rec' : ((List Int) × (List Int) × Bool × Int × Unit) × (Unit) → Option (Bool × ((Bool × Unit) × (Unit)))) (a : (List Int)) (b : (List Int)) (t4 : Bool) (i : Int) : round E_w_eqInt64S (lookL ll_w_eqInt64S) lm_L_w_eqInt64S_1 26 (loopAt Try.f17 0) rec' ((a, b, t4, i, ()), (())) = L_w_eqInt64S_1 rec' ((a, b, t4, i, ()), (())) := by kernel_rfl
theorem lo_w_eqInt64S : Loops E_w_eqInt64S (lookL ll_w_eqInt64S) Try.f17 := Loops.list (by kernel_rfl) (by kernel_rfl) ⟨LoopOK.iter (step := L_w_eqInt64S_1) (N := fun _ => fuel) (fun rec' x => by obtain ⟨⟨a, b, t4, i, ⟨⟩⟩, ⟨⟨⟩⟩⟩ := x; exact rd_L_w_eqInt64S_1 rec' a b t4 i) fun _ => rfl, trivial⟩
theorem ev_w_eqInt64S (a : (List Int)) (b : (List Int)) : evalF E_w_eqInt64S (lookL ll_w_eqInt64S) Try.f17 [.ro false (.slice (.int .i64)), .ro false (.slice (.int .i64))] (.one false .bool) (a, b, ()) = g_w_eqInt64S a b := by kernel_rfl
def m_w_eqInt64S : FM := { ps := [.ro false (.slice (.int .i64)), .ro false (.slice (.int .i64))], res := .one false .bool, run := fun x => g_w_eqInt64S x.1 x.2.1 }
set_option maxRecDepth 4000 in
theorem ok_w_eqInt64S : FmOK Try.prog 17 m_w_eqInt64S := @FmOK.made Try.prog E_w_eqInt64S ek_w_eqInt64S 17 Try.f17 (lookL ll_w_eqInt64S) m_w_eqInt64S Try.func17 (by kernel_rfl) lo_w_eqInt64S fun ds out _ hr => by obtain ⟨a, b, ⟨⟩⟩ := ds; exact (ev_w_eqInt64S a b).trans hr

def E_w_sameFloat : Tabs := (mkE tab [] [])
set_option maxRecDepth 4000 in
theorem ek_w_sameFloat : EnvOK Try.prog E_w_sameFloat := (mkE_ok tab_ok mixed AllF.nil AllX.nil)
theorem ev_w_sameFloat (a : Nat) (b : Nat) : evalF E_w_sameFloat noL Try.f91 [.ro false (.flt .f64), .ro false (.flt .f64)] (.one false .bool) (a, b, ()) = g_w_sameFloat a b := by kernel_rfl
def m_w_sameFloat : FM := { ps := [.ro false (.flt .f64), .ro false (.flt .f64)], res := .one false .bool, run := fun x => some (t_w_sameFloat x.1 x.2.1) }
set_option maxRecDepth 4000 in
theorem ok_w_sameFloat : FmOK Try.prog 91 m_w_sameFloat := @FmOK.made Try.prog E_w_sameFloat ek_w_sameFloat 91 Try.f91 noL m_w_sameFloat Try.func91 (by kernel_rfl) (Loops.none (by kernel_rfl)) fun ds out _ hr => by obtain ⟨a, b, ⟨⟩⟩ := ds; exact (ev_w_sameFloat a b).trans ((q_w_sameFloat a b).trans hr)

def E_w_eqVector : Tabs := (mkE tab [(91, m_w_sameFloat)] [])
set_option maxRecDepth 4000 in
theorem ek_w_eqVector : EnvOK Try.prog E_w_eqVector := (mkE_ok tab_ok mixed (AllF.cons ok_w_sameFloat AllF.nil) AllX.nil)
theorem ev_w_eqVector (a : dVec) (b : dVec) : evalF E_w_eqVector noL Try.f60 [.ro true tVec, .ro true tVec] (.one false .bool) (a, b, ()) = g_w_eqVector a b := by kernel_rfl
def m_w_eqVector : FM := { ps := [.ro true tVec, .ro true tVec], res := .one false .bool, run := fun x => some (t_w_eqVector x.1 x.2.1) }
set_option maxRecDepth 4000 in
theorem ok_w_eqVector : FmOK Try.prog 60 m_w_eqVector := @FmOK.made Try.prog E_w_eqVector ek_w_eqVector 60 Try.f60 noL m_w_eqVector Try.func60 (by kernel_rfl) (Loops.none (by kernel_rfl)) fun ds out _ hr => by obtain ⟨a, b, ⟨⟩⟩ := ds; exact (ev_w_eqVector a b).trans ((q_w_eqVector a b).trans hr)

def E_w_eqBone : Tabs := (mkE tab [(60, m_w_eqVector)] [])
set_option maxRecDepth 4000 in
theorem ek_w_eqBone : EnvOK Try.prog E_w_eqBone := (mkE_ok tab_ok mixed (AllF.cons ok_w_eqVector AllF.nil) AllX.nil)
theorem ev_w_eqBone (a : dRootKey) (b : dRootKey) : evalF E_w_eqBone noL Try.f74 [.ro true tRootKey, .ro true tRootKey] (.one false .bool) (a, b, ()) = g_w_eqBone a b := by kernel_rfl
def m_w_eqBone : FM := { ps := [.ro true tRootKey, .ro true tRootKey], res := .one false .bool, run := fun x => some (t_w_eqBone x.1 x.2.1) }
set_option maxRecDepth 4000 in
theorem ok_w_eqBone : FmOK Try.prog 74 m_w_eqBone := @FmOK.made Try.prog E_w_eqBone ek_w_eqBone 74 Try.f74 noL m_w_eqBone Try.func74 (by kernel_rfl) (Loops.none (by kernel_rfl)) fun ds out _ hr => by obtain ⟨a, b, ⟨⟩⟩ := ds; exact (ev_w_eqBone a b).trans ((q_w_eqBone a b).trans hr)

def E_w_eqBoneS : Tabs := (mkE tab [(74, m_w_eqBone)] [])
set_option maxRecDepth 4000 in
theorem ek_w_eqBoneS : EnvOK Try.prog E_w_eqBoneS := (mkE_ok tab_ok mixed (AllF.cons ok_w_eqBone AllF.nil) AllX.nil)
def lm_L_w_eqBoneS_1 : LM := { mat := [], head := { slots := [(0, .dat false (.slice tRootKey)), (1, .dat false (.slice tRootKey)), (4, .dat false .bool), (5, .dat false (.int .i64))], blks := [] }, out := { slots := [(4, .dat false .bool)], blks := [] }, ex := 0, rets := true, run := iter L_w_eqBoneS_1 fuel }
def ll_w_eqBoneS : List (Nat × LP) := [(4, .lm lm_L_w_eqBoneS_1)]
theorem rd_L_w_eqBoneS_1 (rec' : ((List dRootKey) × (List dRootKey) × Bool × Int × Unit) × (Unit) → Option (Bool × ((Bool × Unit) × (Unit)))) (a : (List dRootKey)) (b : (List dRootKey)) (t4 : Bool) (i : Int) : round E_w_eqBoneS (lookL ll_w_eqBoneS) lm_L_w_eqBoneS_1 27 (loopAt Try.f43 0) rec' ((a, b, t4, i, ()), (())) = L_w_eqBoneS_1 rec' ((a, b, t4, i, ()), (())) := by kernel_rfl
theorem lo_w_eqBoneS : Loops E_w_eqBoneS (lookL ll_w_eqBoneS) Try.f43 := Loops.list (by kernel_rfl) (by kernel_rfl) ⟨LoopOK.iter (step := L_w_eqBoneS_1) (N := fun _ => fuel) (fun rec' x => by obtain ⟨⟨a, b, t4, i, ⟨⟩⟩, ⟨⟨⟩⟩⟩ := x; exact rd_L_w_eqBoneS_1 rec' a b t4 i) fun _ => rfl, trivial⟩
theorem ev_w_eqBoneS (a : (List dRootKey)) (b : (List dRootKey)) : evalF E_w_eqBoneS (lookL ll_w_eqBoneS) Try.f43 [.ro false (.slice tRootKey), .ro false (.slice tRootKey)] (.one false .bool) (a, b, ()) = g_w_eqBoneS a b := by kernel_rfl
def m_w_eqBoneS : FM := { ps := [.ro false (.slice tRootKey), .ro false (.slice tRootKey)], res := .one false .bool, run := fun x => g_w_eqBoneS x.1 x.2.1 }
set_option maxRecDepth 4000 in
theorem ok_w_eqBoneS : FmOK Try.prog 43 m_w_eqBoneS := @FmOK.made Try.prog E_w_eqBoneS ek_w_eqBoneS 43 Try.f43 (lookL ll_w_eqBoneS) m_w_eqBoneS Try.func43 (by kernel_rfl) lo_w_eqBoneS fun ds out _ hr => by obtain ⟨a, b, ⟨⟩⟩ := ds; exact (ev_w_eqBoneS a b).trans hr

def E_w_eqSkeleton : Tabs := (mkE tab [(43, m_w_eqBoneS)] [])
set_option maxRecDepth 4000 in
theorem ek_w_eqSkeleton : EnvOK Try.prog E_w_eqSkeleton := (mkE_ok tab_ok mixed (AllF.cons ok_w_eqBoneS AllF.nil) AllX.nil)
theorem ev_w_eqSkeleton (a : dSkel) (b : dSkel) : evalF E_w_eqSkeleton noL Try.f18 [.ro true tSkel, .ro true tSkel] (.one false .bool) (a, b, ()) = g_w_eqSkeleton a b := by kernel_rfl
def m_w_eqSkeleton : FM := { ps := [.ro true tSkel, .ro true tSkel], res := .one false .bool, run := fun x => g_w_eqSkeleton x.1 x.2.1 }
set_option maxRecDepth 4000 in
theorem ok_w_eqSkeleton : FmOK Try.prog 18 m_w_eqSkeleton := @FmOK.made Try.prog E_w_eqSkeleton ek_w_eqSkeleton 18 Try.f18 noL m_w_eqSkeleton Try.func18 (by kernel_rfl) (Loops.none (by kernel_rfl)) fun ds out _ hr => by obtain ⟨a, b, ⟨⟩⟩ := ds; exact (ev_w_eqSkeleton a b).trans hr

def E_w_eqFloat32S : Tabs := (mkE tab [(91, m_w_sameFloat)] [])
set_option maxRecDepth 4000 in
theorem ek_w_eqFloat32S : EnvOK Try.prog E_w_eqFloat32S := (mkE_ok tab_ok mixed (AllF.cons ok_w_sameFloat AllF.nil) AllX.nil)
def lm_L_w_eqFloat32S_1 : LM := { mat := [], head := { slots := [(0, .dat false (.slice (.flt .f32))), (1, .dat false (.slice (.flt .f32))), (4, .dat false .bool), (5, .dat false (.int .i64))], blks := [] }, out := { slots := [(4, .dat false .bool)], blks := [] }, ex := 0, rets := true, run := iter L_w_eqFloat32S_1 fuel }
def ll_w_eqFloat32S : List (Nat × LP) := [(4, .lm lm_L_w_eqFloat32S_1)]
theorem rd_L_w_eqFloat32S_1 (rec' : ((List Nat) × (List Nat) × Bool × Int × Unit) × (Unit) → Option (Bool × ((Bool × Unit) × (Unit)))) (a : (List Nat)) (b : (List Nat)) (t4 : Bool) (i : Int) : round E_w_eqFloat32S (lookL ll_w_eqFloat32S) lm_L_w_eqFloat32S_1 29 (loopAt Try.f75 0) rec' ((a, b, t4, i, ()), (())) = L_w_eqFloat32S_1 rec' ((a, b, t4, i, ()), (())) := by kernel_rfl
theorem lo_w_eqFloat32S : Loops E_w_eqFloat32S (lookL ll_w_eqFloat32S) Try.f75 := Loops.list (by kernel_rfl) (by kernel_rfl) ⟨LoopOK.iter (step := L_w_eqFloat32S_1) (N := fun _ => fuel) (fun rec' x => by obtain ⟨⟨a, b, t4, i, ⟨⟩⟩, ⟨⟨⟩⟩⟩ := x; exact rd_L_w_eqFloat32S_1 rec' a b t4 i) fun _ => rfl, trivial⟩
theorem ev_w_eqFloat32S (a : (List Nat)) (b : (List Nat)) : evalF E_w_eqFloat32S (lookL ll_w_eqFloat32S) Try.f75 [.ro false (.slice (.flt .f32)), .ro false (.slice (.flt .f32))] (.one false .bool) (a, b, ()) = g_w_eqFloat32S a b := by kernel_rfl
def m_w_eqFloat32S : FM := { ps := [.ro false (.slice (.flt .f32)), .ro false (.slice (.flt .f32))], res := .one false .bool, run := fun x => g_w_eqFloat32S x.1 x.2.1 }
set_option maxRecDepth 4000 in
theorem ok_w_eqFloat32S : FmOK Try.prog 75 m_w_eqFloat32S := @FmOK.made Try.prog E_w_eqFloat32S ek_w_eqFloat32S 75 Try.f75 (lookL ll_w_eqFloat32S) m_w_eqFloat32S Try.func75 (by kernel_rfl) lo_w_eqFloat32S fun ds out _ hr => by obtain ⟨a, b, ⟨⟩⟩ := ds; exact (ev_w_eqFloat32S a b).trans hr

def E_w_eqSkinPoint : Tabs := (mkE tab [(60, m_w_eqVector), (17, m_w_eqInt64S), (75, m_w_eqFloat32S)] [])
set_option maxRecDepth 4000 in
theorem ek_w_eqSkinPoint : EnvOK Try.prog E_w_eqSkinPoint := (mkE_ok tab_ok mixed (AllF.cons ok_w_eqVector (AllF.cons ok_w_eqInt64S (AllF.cons ok_w_eqFloat32S AllF.nil))) AllX.nil)
theorem ev_w_eqSkinPoint (a : dSkinPoint) (b : dSkinPoint) : evalF E_w_eqSkinPoint noL Try.f44 [.ro true tSkinPoint, .ro true tSkinPoint] (.one false .bool) (a, b, ()) = g_w_eqSkinPoint a b := by kernel_rfl
def m_w_eqSkinPoint : FM := { ps := [.ro true tSkinPoint, .ro true tSkinPoint], res := .one false .bool, run := fun x => g_w_eqSkinPoint x.1 x.2.1 }
set_option maxRecDepth 4000 in
theorem ok_w_eqSkinPoint : FmOK Try.prog 44 m_w_eqSkinPoint := @FmOK.made Try.prog E_w_eqSkinPoint ek_w_eqSkinPoint 44 Try.f44 noL m_w_eqSkinPoint Try.func44 (by kernel_rfl) (Loops.none (by kernel_rfl)) fun ds out _ hr => by obtain ⟨a, b, ⟨⟩⟩ := ds; exact (ev_w_eqSkinPoint a b).trans hr

def E_w_eqSkinPointS : Tabs := (mkE tab [(44, m_w_eqSkinPoint)] [])
set_option maxRecDepth 4000 in
theorem ek_w_eqSkinPointS : EnvOK Try.prog E_w_eqSkinPointS := (mkE_ok tab_ok mixed (AllF.cons ok_w_eqSkinPoint AllF.nil) AllX.nil)
def lm_L_w_eqSkinPointS_1 : LM := { mat := [], head := { slots := [(0, .dat false (.slice tSkinPoint)), (1, .dat false (.slice tSkinPoint)), (4, .dat false .bool), (5, .dat false (.int .i64))], blks := [] }, out := { slots := [(4, .dat false .bool)], blks := [] }, ex := 0, rets := true, run := iter L_w_eqSkinPointS_1 fuel }
def ll_w_eqSkinPointS : List (Nat × LP) := [(4, .lm lm_L_w_eqSkinPointS_1)]
theorem rd_L_w_eqSkinPointS_1 (rec' : ((List dSkinPoint) × (List dSkinPoint) × Bool × Int × Unit) × (Unit) → Option (Bool × ((Bool × Unit) × (Unit)))) (a : (List dSkinPoint)) (b : (List dSkinPoint)) (t4 : Bool) (i : Int) : round E_w_eqSkinPointS (lookL ll_w_eqSkinPointS) lm_L_w_eqSkinPointS_1 27 (loopAt Try.f19 0) rec' ((a, b, t4, i, ()), (())) = L_w_eqSkinPointS_1 rec' ((a, b, t4, i, ()), (())) := by kernel_rfl
theorem lo_w_eqSkinPointS : Loops E_w_eqSkinPointS (lookL ll_w_eqSkinPointS) Try.f19 := Loops.list (by kernel_rfl) (by kernel_rfl) ⟨LoopOK.iter (step := L_w_eqSkinPointS_1) (N := fun _ => fuel) (fun rec' x => by obtain ⟨⟨a, b, t4, i, ⟨⟩⟩, ⟨⟨⟩⟩⟩ := x; exact rd_L_w_eqSkinPointS_1 rec' a b t4 i) fun _ => rfl, trivial⟩
theorem ev_w_eqSkinPointS (a : (List dSkinPoint)) (b : (List dSkinPoint)) : evalF E_w_eqSkinPointS (lookL ll_w_eqSkinPointS) Try.f19 [.ro false (.slice tSkinPoint), .ro false (.slice tSkinPoint)] (.one false .bool) (a, b, ()) = g_w_eqSkinPointS a b := by kernel_rfl
def m_w_eqSkinPointS : FM := { ps := [.ro false (.slice tSkinPoint), .ro false (.slice tSkinPoint)], res := .one false .bool, run := fun x => g_w_eqSkinPointS x.1 x.2.1 }
set_option maxRecDepth 4000 in
theorem ok_w_eqSkinPointS : FmOK Try.prog 19 m_w_eqSkinPointS := @FmOK.made Try.prog E_w_eqSkinPointS ek_w_eqSkinPointS 19 Try.f19 (lookL ll_w_eqSkinPointS) m_w_eqSkinPointS Try.func19 (by kernel_rfl) lo_w_eqSkinPointS fun ds out _ hr => by obtain ⟨a, b, ⟨⟩⟩ := ds; exact (ev_w_eqSkinPointS a b).trans hr

def E_w_markBoneS : Tabs := (mkE tab [] [])
set_option maxRecDepth 4000 in
theorem ek_w_markBoneS : EnvOK Try.prog E_w_markBoneS := (mkE_ok tab_ok mixed AllF.nil AllX.nil)
def lm_L_w_markBoneS_1 : LM := { mat := [], head := { slots := [(0, .cst (.sl (.row 0))), (1, .dat false (.int .i64)), (5, .dat false (.int .i64))], blks := [.row true tRootKey] }, out := { slots := [(1, .dat false (.int .i64))], blks := [.row true tRootKey] }, ex := 0, rets := false, run := iter L_w_markBoneS_1 fuel }
def ll_w_markBoneS : List (Nat × LP) := [(2, .lm lm_L_w_markBoneS_1)]
theorem rd_L_w_markBoneS_1 (rec' : (Int × Int × Unit) × ((List dRootKey) × Unit) → Option ((Int × Unit) × ((List dRootKey) × Unit))) (k : Int) (i : Int) (r0 : (List dRootKey)) : round E_w_markBoneS (lookL ll_w_markBoneS) lm_L_w_markBoneS_1 47 (loopAt Try.f45 0) rec' ((k, i, ()), (r0, ())) = L_w_markBoneS_1 rec' ((k, i, ()), (r0, ())) := by kernel_rfl
theorem lo_w_markBoneS : Loops E_w_markBoneS (lookL ll_w_markBoneS) Try.f45 := Loops.list (by kernel_rfl) (by kernel_rfl) ⟨LoopOK.iter (step := L_w_markBoneS_1) (N := fun _ => fuel) (fun rec' x => by obtain ⟨⟨k, i, ⟨⟩⟩, ⟨r0, ⟨⟩⟩⟩ := x; exact rd_L_w_markBoneS_1 rec' k i r0) fun _ => rfl, trivial⟩
theorem ev_w_markBoneS (a : (List dRootKey)) (k : Int) : evalX E_w_markBoneS (lookL ll_w_markBoneS) Try.f45 [.own false (.slice tRootKey), .ro false (.int .i64)] (.one false (.int .i64)) (a, k, ()) = g_w_markBoneS a k := by kernel_rfl
def m_w_markBoneS : FX := { ps := [.own false (.slice tRootKey), .ro false (.int .i64)], res := .one false (.int .i64), run := fun x => g_w_markBoneS x.1 x.2.1 }
set_option maxRecDepth 4000 in
theorem ok_w_markBoneS : FxOK Try.prog 45 m_w_markBoneS := @FxOK.made Try.prog E_w_markBoneS ek_w_markBoneS 45 Try.f45 (lookL ll_w_markBoneS) m_w_markBoneS Try.func45 (by kernel_rfl) lo_w_markBoneS fun ds out _ hr => by obtain ⟨a, k, ⟨⟩⟩ := ds; exact (ev_w_markBoneS a k).trans hr

def E_w_markSkeleton : Tabs := (mkE tab [] [(45, m_w_markBoneS)])
set_option maxRecDepth 4000 in
theorem ek_w_markSkeleton : EnvOK Try.prog E_w_markSkeleton := (mkE_ok tab_ok mixed AllF.nil (AllX.cons ok_w_markBoneS AllX.nil))
theorem ev_w_markSkeleton (a : dSkel) (k : Int) : evalX E_w_markSkeleton noL Try.f20 [.own true tSkel, .ro false (.int .i64)] (.one false (.int .i64)) (a, k, ()) = g_w_markSkeleton a k := by kernel_rfl
def m_w_markSkeleton : FX := { ps := [.own true tSkel, .ro false (.int .i64)], res := .one false (.int .i64), run := fun x => g_w_markSkeleton x.1 x.2.1 }
set_option maxRecDepth 4000 in
theorem ok_w_markSkeleton : FxOK Try.prog 20 m_w_markSkeleton := @FxOK.made Try.prog E_w_markSkeleton ek_w_markSkeleton 20 Try.f20 noL m_w_markSkeleton Try.func20 (by kernel_rfl) (Loops.none (by kernel_rfl)) fun ds out _ hr => by obtain ⟨a, k, ⟨⟩⟩ := ds; exact (ev_w_markSkeleton a k).trans hr

def E_w_markInt64S : Tabs := (mkE tab [] [])
set_option maxRecDepth 4000 in
theorem ek_w_markInt64S : EnvOK Try.prog E_w_markInt64S := (mkE_ok tab_ok mixed AllF.nil AllX.nil)
def lm_L_w_markInt64S_1 : LM := { mat := [], head := { slots := [(0, .cst (.sl (.row 0))), (1, .dat false (.int .i64)), (5, .dat false (.int .i64))], blks := [.row true (.int .i64)] }, out := { slots := [(1, .dat false (.int .i64))], blks := [.row true (.int .i64)] }, ex := 0, rets := false, run := iter L_w_markInt64S_1 fuel }
def ll_w_markInt64S : List (Nat × LP) := [(2, .lm lm_L_w_markInt64S_1)]
theorem rd_L_w_markInt64S_1 (rec' : (Int × Int × Unit) × ((List Int) × Unit) → Option ((Int × Unit) × ((List Int) × Unit))) (k : Int) (i : Int) (r0 : (List Int)) : round E_w_markInt64S (lookL ll_w_markInt64S) lm_L_w_markInt64S_1 19 (loopAt Try.f22 0) rec' ((k, i, ()), (r0, ())) = L_w_markInt64S_1 rec' ((k, i, ()), (r0, ())) := by kernel_rfl
theorem lo_w_markInt64S : Loops E_w_markInt64S (lookL ll_w_markInt64S) Try.f22 := Loops.list (by kernel_rfl) (by kernel_rfl) ⟨LoopOK.iter (step := L_w_markInt64S_1) (N := fun _ => fuel) (fun rec' x => by obtain ⟨⟨k, i, ⟨⟩⟩, ⟨r0, ⟨⟩⟩⟩ := x; exact rd_L_w_markInt64S_1 rec' k i r0) fun _ => rfl, trivial⟩
theorem ev_w_markInt64S (a : (List Int)) (k : Int) : evalX E_w_markInt64S (lookL ll_w_markInt64S) Try.f22 [.own false (.slice (.int .i64)), .ro false (.int .i64)] (.one false (.int .i64)) (a, k, ()) = g_w_markInt64S a k := by kernel_rfl
def m_w_markInt64S : FX := { ps := [.own false (.slice (.int .i64)), .ro false (.int .i64)], res := .one false (.int .i64), run := fun x => g_w_markInt64S x.1 x.2.1 }
set_option maxRecDepth 4000 in
theorem ok_w_markInt64S : FxOK Try.prog 22 m_w_markInt64S := @FxOK.made Try.prog E_w_markInt64S ek_w_markInt64S 22 Try.f22 (lookL ll_w_markInt64S) m_w_markInt64S Try.func22 (by kernel_rfl) lo_w_markInt64S fun ds out _ hr => by obtain ⟨a, k, ⟨⟩⟩ := ds; exact (ev_w_markInt64S a k).trans hr

def E_w_markFloat32S : Tabs := (mkE tab [] [])
set_option maxRecDepth 4000 in
theorem ek_w_markFloat32S : EnvOK Try.prog E_w_markFloat32S := (mkE_ok tab_ok mixed AllF.nil AllX.nil)
def lm_L_w_markFloat32S_1 : LM := { mat := [], head := { slots := [(0, .cst (.sl (.row 0))), (1, .dat false (.int .i64)), (5, .dat false (.int .i64))], blks := [.row true (.flt .f32)] }, out := { slots := [(1, .dat false (.int .i64))], blks := [.row true (.flt .f32)] }, ex := 0, rets := false, run := iter L_w_markFloat32S_1 fuel }
def ll_w_markFloat32S : List (Nat × LP) := [(2, .lm lm_L_w_markFloat32S_1)]
theorem rd_L_w_markFloat32S_1 (rec' : (Int × Int × Unit) × ((List Nat) × Unit) → Option ((Int × Unit) × ((List Nat) × Unit))) (k : Int) (i : Int) (r0 : (List Nat)) : round E_w_markFloat32S (lookL ll_w_markFloat32S) lm_L_w_markFloat32S_1 20 (loopAt Try.f46 0) rec' ((k, i, ()), (r0, ())) = L_w_markFloat32S_1 rec' ((k, i, ()), (r0, ())) := by kernel_rfl
theorem lo_w_markFloat32S : Loops E_w_markFloat32S (lookL ll_w_markFloat32S) Try.f46 := Loops.list (by kernel_rfl) (by kernel_rfl) ⟨LoopOK.iter (step := L_w_markFloat32S_1) (N := fun _ => fuel) (fun rec' x => by obtain ⟨⟨k, i, ⟨⟩⟩, ⟨r0, ⟨⟩⟩⟩ := x; exact rd_L_w_markFloat32S_1 rec' k i r0) fun _ => rfl, trivial⟩
theorem ev_w_markFloat32S (a : (List Nat)) (k : Int) : evalX E_w_markFloat32S (lookL ll_w_markFloat32S) Try.f46 [.own false (.slice (.flt .f32)), .ro false (.int .i64)] (.one false (.int .i64)) (a, k, ()) = g_w_markFloat32S a k := by kernel_rfl
def m_w_markFloat32S : FX := { ps := [.own false (.slice (.flt .f32)), .ro false (.int .i64)], res := .one false (.int .i64), run := fun x => g_w_markFloat32S x.1 x.2.1 }
set_option maxRecDepth 4000 in
theorem ok_w_markFloat32S : FxOK Try.prog 46 m_w_markFloat32S := @FxOK.made Try.prog E_w_markFloat32S ek_w_markFloat32S 46 Try.f46 (lookL ll_w_markFloat32S) m_w_markFloat32S Try.func46 (by kernel_rfl) lo_w_markFloat32S fun ds out _ hr => by obtain ⟨a, k, ⟨⟩⟩ := ds; exact (ev_w_markFloat32S a k).trans hr

def E_w_markSkinPointS : Tabs := (mkE tab [] [(22, m_w_markInt64S), (46, m_w_markFloat32S)])
set_option maxRecDepth 4000 in
theorem ek_w_markSkinPointS : EnvOK Try.prog E_w_markSkinPointS := (mkE_ok tab_ok mixed AllF.nil (AllX.cons ok_w_markInt64S (AllX.cons ok_w_markFloat32S AllX.nil)))
def lm_L_w_markSkinPointS_1 : LM := { mat := [], head := { slots := [(0, .cst (.sl (.row 0))), (1, .dat false (.int .i64)), (5, .dat false (.int .i64))], blks := [.row true tSkinPoint] }, out := { slots := [(1, .dat false (.int .i64))], blks := [.row true tSkinPoint] }, ex := 0, rets := false, run := iter L_w_markSkinPointS_1 fuel }
def ll_w_markSkinPointS : List (Nat × LP) := [(2, .lm lm_L_w_markSkinPointS_1)]
theorem rd_L_w_markSkinPointS_1 (rec' : (Int × Int × Unit) × ((List dSkinPoint) × Unit) → Option ((Int × Unit) × ((List dSkinPoint) × Unit))) (k : Int) (i : Int) (r0 : (List dSkinPoint)) : round E_w_markSkinPointS (lookL ll_w_markSkinPointS) lm_L_w_markSkinPointS_1 54 (loopAt Try.f21 0) rec' ((k, i, ()), (r0, ())) = L_w_markSkinPointS_1 rec' ((k, i, ()), (r0, ())) := by kernel_rfl
theorem lo_w_markSkinPointS : Loops E_w_markSkinPointS (lookL ll_w_markSkinPointS) Try.f21 := Loops.list (by kernel_rfl) (by kernel_rfl) ⟨LoopOK.iter (step := L_w_markSkinPointS_1) (N := fun _ => fuel) (fun rec' x => by obtain ⟨⟨k, i, ⟨⟩⟩, ⟨r0, ⟨⟩⟩⟩ := x; exact rd_L_w_markSkinPointS_1 rec' k i r0) fun _ => rfl, trivial⟩
theorem ev_w_markSkinPointS (a : (List dSkinPoint)) (k : Int) : evalX E_w_markSkinPointS (lookL ll_w_markSkinPointS) Try.f21 [.own false (.slice tSkinPoint), .ro false (.int .i64)] (.one false (.int .i64)) (a, k, ()) = g_w_markSkinPointS a k := by kernel_rfl
def m_w_markSkinPointS : FX := { ps := [.own false (.slice tSkinPoint), .ro false (.int .i64)], res := .one false (.int .i64), run := fun x => g_w_markSkinPointS x.1 x.2.1 }
set_option maxRecDepth 4000 in
theorem ok_w_markSkinPointS : FxOK Try.prog 21 m_w_markSkinPointS := @FxOK.made Try.prog E_w_markSkinPointS ek_w_markSkinPointS 21 Try.f21 (lookL ll_w_markSkinPointS) m_w_markSkinPointS Try.func21 (by kernel_rfl) lo_w_markSkinPointS fun ds out _ hr => by obtain ⟨a, k, ⟨⟩⟩ := ds; exact (ev_w_markSkinPointS a k).trans hr

def E_w_heldInt64S : Tabs := (mkE tab [] [])
set_option maxRecDepth 4000 in
theorem ek_w_heldInt64S : EnvOK Try.prog E_w_heldInt64S := (mkE_ok tab_ok mixed AllF.nil AllX.nil)
def lm_L_w_heldInt64S_1 : LM := { mat := [], head := { slots := [(0, .dat false (.slice (.int .i64))), (1, .dat false (.int .i64)), (4, .dat false (.int .i64)), (5, .dat false (.int .i64))], blks := [] }, out := { slots := [(1, .dat false (.int .i64)), (4, .dat false (.int .i64))], blks := [] }, ex := 0, rets := true, run := iter L_w_heldInt64S_1 fuel }
def ll_w_heldInt64S : List (Nat × LP) := [(2, .lm lm_L_w_heldInt64S_1)]
theorem rd_L_w_heldInt64S_1 (rec' : ((List Int) × Int × Int × Int × Unit) × (Unit) → Option (Bool × ((Int × Int × Unit) × (Unit)))) (a : (List Int)) (k : Int) (t4 : Int) (i : Int) : round E_w_heldInt64S (lookL ll_w_heldInt64S) lm_L_w_heldInt64S_1 21 (loopAt Try.f23 0) rec' ((a, k, t4, i, ()), (())) = L_w_heldInt64S_1 rec' ((a, k, t4, i, ()), (())) := by kernel_rfl
theorem lo_w_heldInt64S : Loops E_w_heldInt64S (lookL ll_w_heldInt64S) Try.f23 := Loops.list (by kernel_rfl) (by kernel_rfl) ⟨LoopOK.iter (step := L_w_heldInt64S_1) (N := fun _ => fuel) (fun rec' x => by obtain ⟨⟨a, k, t4, i, ⟨⟩⟩, ⟨⟨⟩⟩⟩ := x; exact rd_L_w_heldInt64S_1 rec' a k t4 i) fun _ => rfl, trivial⟩
theorem ev_w_heldInt64S (a : (List Int)) (k : Int) : evalF E_w_heldInt64S (lookL ll_w_heldInt64S) Try.f23 [.ro false (.slice (.int .i64)), .ro false (.int .i64)] (.one false (.int .i64)) (a, k, ()) = g_w_heldInt64S a k := by kernel_rfl
def m_w_heldInt64S : FM := { ps := [.ro false (.slice (.int .i64)), .ro false (.int .i64)], res := .one false (.int .i64), run := fun x => g_w_heldInt64S x.1 x.2.1 }
set_option maxRecDepth 4000 in
theorem ok_w_heldInt64S : FmOK Try.prog 23 m_w_heldInt64S := @FmOK.made Try.prog E_w_heldInt64S ek_w_heldInt64S 23 Try.f23 (lookL ll_w_heldInt64S) m_w_heldInt64S Try.func23 (by kernel_rfl) lo_w_heldInt64S fun ds out _ hr => by obtain ⟨a, k, ⟨⟩⟩ := ds; exact (ev_w_heldInt64S a k).trans hr

def E_w_FnExactUsedBones : Tabs := (mkE tab [(11, m_w_szSkeleton), (12, m_w_szSkinPointS), (14, m_w_toSkeleton), (15, m_w_toSkinPointS), (13, m_s_UsedBones), (16, m_i_UsedBones), (17, m_w_eqInt64S), (18, m_w_eqSkeleton), (19, m_w_eqSkinPointS), (23, m_w_heldInt64S)] [(20, m_w_markSkeleton), (21, m_w_markSkinPointS), (22, m_w_markInt64S)])
set_option maxRecDepth 4000 in
theorem ek_w_FnExactUsedBones : EnvOK Try.prog E_w_FnExactUsedBones := (mkE_ok tab_ok mixed (AllF.cons ok_w_szSkeleton (AllF.cons ok_w_szSkinPointS (AllF.cons ok_w_toSkeleton (AllF.cons ok_w_toSkinPointS (AllF.cons ok_s_UsedBones (AllF.cons ok_i_UsedBones (AllF.cons ok_w_eqInt64S (AllF.cons ok_w_eqSkeleton (AllF.cons ok_w_eqSkinPointS (AllF.cons ok_w_heldInt64S AllF.nil)))))))))) (AllX.cons ok_w_markSkeleton (AllX.cons ok_w_markSkinPointS (AllX.cons ok_w_markInt64S AllX.nil))))
theorem ev_w_FnExactUsedBones (aK : dSkel) (aPoints : (List dSkinPoint)) : evalF E_w_FnExactUsedBones noL Try.f4 [.ro true tSkel, .ro false (.slice tSkinPoint)] (.one false .bool) (aK, aPoints, ()) = g_w_FnExactUsedBones aK aPoints := by kernel_rfl
end
end Go.Fw.D
