/- The functions of the translation compute what the plain functions compute. No condition. -/
import Derived.Test.YtmfmdoppjcaedaaUPure
import Derived.Test.YtmfmdoppjcaedaaProg
import Derived.KernelRfl
set_option linter.unusedVariables false
namespace Go.Fw.U
open Go.Fw Go.Proofs Go.RowKit
noncomputable section
def tab : List (Nat × TI) := [
  (2, { und := .int .i64, size := 1, bytes := 8, zero := [.int .i64 0], ty := (.int .i64) }),
  (3, { und := .int .i64, size := 1, bytes := 8, zero := [.int .i64 0], ty := (.int .i64) }),
  (4, { und := .bool, size := 1, bytes := 1, zero := [.bool false], ty := .bool }),
  (5, { und := .int .u8, size := 1, bytes := 1, zero := [.int .u8 0], ty := (.int .u8) }),
  (9, { und := .str, size := 1, bytes := 16, zero := [.str ByteArray.empty], ty := .str }),
  (22, { und := .flt .f32, size := 1, bytes := 4, zero := [.flt .f32 0], ty := (.flt .f32) }),
  (24, { und := .struct [(0, 2), (1, 2), (2, 22)], size := 3, bytes := 24, zero := [.int .i64 0, .int .i64 0, .flt .f32 0], ty := tPacking }),
  (25, { und := .slice 63, size := 1, bytes := 24, zero := [.sl .nil], ty := (.slice tPose) }),
  (28, { und := .struct [(0, 2), (1, 2), (2, 22)], size := 3, bytes := 24, zero := [.int .i64 0, .int .i64 0, .flt .f32 0], ty := tPacking }),
  (39, { und := .slice 2, size := 1, bytes := 24, zero := [.sl .nil], ty := (.slice (.int .i64)) }),
  (56, { und := .other, size := 1, bytes := 8, zero := [.pnil], ty := .unit }),
  (60, { und := .struct [(0, 22), (1, 22), (2, 22)], size := 3, bytes := 12, zero := [.flt .f32 0, .flt .f32 0, .flt .f32 0], ty := tVec }),
  (61, { und := .slice 98, size := 1, bytes := 24, zero := [.sl .nil], ty := (.slice tTurn) }),
  (63, { und := .struct [(0, 60), (3, 61)], size := 4, bytes := 40, zero := [.flt .f32 0, .flt .f32 0, .flt .f32 0, .sl .nil], ty := tPose }),
  (98, { und := .struct [(0, 22), (1, 22), (2, 22), (3, 22)], size := 4, bytes := 16, zero := [.flt .f32 0, .flt .f32 0, .flt .f32 0, .flt .f32 0], ty := tTurn }),
  (122, { und := .int .u64, size := 1, bytes := 8, zero := [.int .u64 0], ty := (.int .u64) }),
  (133, { und := .array 3 2, size := 3, bytes := 24, zero := [.int .i64 0, .int .i64 0, .int .i64 0], ty := (.pair (.int .i64) (.pair (.int .i64) (.pair (.int .i64) .unit))) }),
  (136, { und := .array 4 22, size := 4, bytes := 16, zero := [.flt .f32 0, .flt .f32 0, .flt .f32 0, .flt .f32 0], ty := tTurn }),
  (138, { und := .flt .f64, size := 1, bytes := 8, zero := [.flt .f64 0], ty := (.flt .f64) }),
  (153, { und := .slice 5, size := 1, bytes := 24, zero := [.sl .nil], ty := (.slice (.int .u8)) })]
theorem tab_ok : TabOK Try.prog (lookT tab) := tabB_spec (by kernel_rfl)
theorem mixed : Try.prog.follows .mixedOrders = true := by kernel_rfl
def E_w_toPacking : Tabs := (mkE tab [] [])
set_option maxRecDepth 4000 in
theorem ek_w_toPacking : EnvOK Try.prog E_w_toPacking := (mkE_ok tab_ok mixed AllF.nil AllX.nil)
theorem ev_w_toPacking (a : dPacking) : evalF E_w_toPacking noL Try.f6 [.ro true tPacking] (.one true tPacking) (a, ()) = g_w_toPacking a := by kernel_rfl
def m_w_toPacking : FM := { ps := [.ro true tPacking], res := .one true tPacking, run := fun x => some (t_w_toPacking x.1) }
set_option maxRecDepth 4000 in
theorem ok_w_toPacking : FmOK Try.prog 6 m_w_toPacking := @FmOK.made Try.prog E_w_toPacking ek_w_toPacking 6 Try.f6 noL m_w_toPacking Try.func6 (by kernel_rfl) (Loops.none (by kernel_rfl)) fun ds out _ hr => by obtain ⟨a, ⟨⟩⟩ := ds; exact (ev_w_toPacking a).trans ((q_w_toPacking a).trans hr)

def E_s_l00In : Tabs := (mkE tab [] [])
set_option maxRecDepth 4000 in
theorem ek_s_l00In : EnvOK Try.prog E_s_l00In := (mkE_ok tab_ok mixed AllF.nil AllX.nil)
theorem ev_s_l00In (n : Int) (low : Int) (high : Int) : evalF E_s_l00In noL Try.f49 [.ro false (.int .i64), .ro false (.int .i64), .ro false (.int .i64)] (.one false .bool) (n, low, high, ()) = g_s_l00In n low high := by kernel_rfl
def m_s_l00In : FM := { ps := [.ro false (.int .i64), .ro false (.int .i64), .ro false (.int .i64)], res := .one false .bool, run := fun x => some (t_s_l00In x.1 x.2.1 x.2.2.1) }
set_option maxRecDepth 4000 in
theorem ok_s_l00In : FmOK Try.prog 49 m_s_l00In := @FmOK.made Try.prog E_s_l00In ek_s_l00In 49 Try.f49 noL m_s_l00In Try.func49 (by kernel_rfl) (Loops.none (by kernel_rfl)) fun ds out _ hr => by obtain ⟨n, low, high, ⟨⟩⟩ := ds; exact (ev_s_l00In n low high).trans ((q_s_l00In n low high).trans hr)

def E_s_l06Bits : Tabs := (mkE tab [(49, m_s_l00In)] [])
set_option maxRecDepth 4000 in
theorem ek_s_l06Bits : EnvOK Try.prog E_s_l06Bits := (mkE_ok tab_ok mixed (AllF.cons ok_s_l00In AllF.nil) AllX.nil)
theorem ev_s_l06Bits (bits : Int) : evalF E_s_l06Bits noL Try.f47 [.ro false (.int .i64)] (.one false .bool) (bits, ()) = g_s_l06Bits bits := by kernel_rfl
def m_s_l06Bits : FM := { ps := [.ro false (.int .i64)], res := .one false .bool, run := fun x => some (t_s_l06Bits x.1) }
set_option maxRecDepth 4000 in
theorem ok_s_l06Bits : FmOK Try.prog 47 m_s_l06Bits := @FmOK.made Try.prog E_s_l06Bits ek_s_l06Bits 47 Try.f47 noL m_s_l06Bits Try.func47 (by kernel_rfl) (Loops.none (by kernel_rfl)) fun ds out _ hr => by obtain ⟨bits, ⟨⟩⟩ := ds; exact (ev_s_l06Bits bits).trans ((q_s_l06Bits bits).trans hr)

def E_s_l01Finite : Tabs := (mkE tab [] [])
set_option maxRecDepth 4000 in
theorem ek_s_l01Finite : EnvOK Try.prog E_s_l01Finite := (mkE_ok tab_ok mixed AllF.nil AllX.nil)
theorem ev_s_l01Finite (xx : Nat) : evalF E_s_l01Finite noL Try.f76 [.ro false (.flt .f32)] (.one false .bool) (xx, ()) = g_s_l01Finite xx := by kernel_rfl
def m_s_l01Finite : FM := { ps := [.ro false (.flt .f32)], res := .one false .bool, run := fun x => some (t_s_l01Finite x.1) }
set_option maxRecDepth 4000 in
theorem ok_s_l01Finite : FmOK Try.prog 76 m_s_l01Finite := @FmOK.made Try.prog E_s_l01Finite ek_s_l01Finite 76 Try.f76 noL m_s_l01Finite Try.func76 (by kernel_rfl) (Loops.none (by kernel_rfl)) fun ds out _ hr => by obtain ⟨xx, ⟨⟩⟩ := ds; exact (ev_s_l01Finite xx).trans ((q_s_l01Finite xx).trans hr)

def E_s_l06Reach : Tabs := (mkE tab [(76, m_s_l01Finite)] [])
set_option maxRecDepth 4000 in
theorem ek_s_l06Reach : EnvOK Try.prog E_s_l06Reach := (mkE_ok tab_ok mixed (AllF.cons ok_s_l01Finite AllF.nil) AllX.nil)
theorem ev_s_l06Reach (xx : Nat) : evalF E_s_l06Reach noL Try.f48 [.ro false (.flt .f32)] (.one false .bool) (xx, ()) = g_s_l06Reach xx := by kernel_rfl
def m_s_l06Reach : FM := { ps := [.ro false (.flt .f32)], res := .one false .bool, run := fun x => some (t_s_l06Reach x.1) }
set_option maxRecDepth 4000 in
theorem ok_s_l06Reach : FmOK Try.prog 48 m_s_l06Reach := @FmOK.made Try.prog E_s_l06Reach ek_s_l06Reach 48 Try.f48 noL m_s_l06Reach Try.func48 (by kernel_rfl) (Loops.none (by kernel_rfl)) fun ds out _ hr => by obtain ⟨xx, ⟨⟩⟩ := ds; exact (ev_s_l06Reach xx).trans ((q_s_l06Reach xx).trans hr)

def E_s_l06Is : Tabs := (mkE tab [(47, m_s_l06Bits), (48, m_s_l06Reach)] [])
set_option maxRecDepth 4000 in
theorem ek_s_l06Is : EnvOK Try.prog E_s_l06Is := (mkE_ok tab_ok mixed (AllF.cons ok_s_l06Bits (AllF.cons ok_s_l06Reach AllF.nil)) AllX.nil)
theorem ev_s_l06Is (p : dPacking) : evalF E_s_l06Is noL Try.f24 [.rptr tPacking] (.one false .bool) (p, ()) = g_s_l06Is p := by kernel_rfl
def m_s_l06Is : FM := { ps := [.rptr tPacking], res := .one false .bool, run := fun x => some (t_s_l06Is x.1) }
set_option maxRecDepth 4000 in
theorem ok_s_l06Is : FmOK Try.prog 24 m_s_l06Is := @FmOK.made Try.prog E_s_l06Is ek_s_l06Is 24 Try.f24 noL m_s_l06Is Try.func24 (by kernel_rfl) (Loops.none (by kernel_rfl)) fun ds out _ hr => by obtain ⟨p, ⟨⟩⟩ := ds; exact (ev_s_l06Is p).trans ((q_s_l06Is p).trans hr)

def E_s_l06Count : Tabs := (mkE tab [(49, m_s_l00In)] [])
set_option maxRecDepth 4000 in
theorem ek_s_l06Count : EnvOK Try.prog E_s_l06Count := (mkE_ok tab_ok mixed (AllF.cons ok_s_l00In AllF.nil) AllX.nil)
theorem ev_s_l06Count (count : Int) : evalF E_s_l06Count noL Try.f25 [.ro false (.int .i64)] (.one false .bool) (count, ()) = g_s_l06Count count := by kernel_rfl
def m_s_l06Count : FM := { ps := [.ro false (.int .i64)], res := .one false .bool, run := fun x => some (t_s_l06Count x.1) }
set_option maxRecDepth 4000 in
theorem ok_s_l06Count : FmOK Try.prog 25 m_s_l06Count := @FmOK.made Try.prog E_s_l06Count ek_s_l06Count 25 Try.f25 noL m_s_l06Count Try.func25 (by kernel_rfl) (Loops.none (by kernel_rfl)) fun ds out _ hr => by obtain ⟨count, ⟨⟩⟩ := ds; exact (ev_s_l06Count count).trans ((q_s_l06Count count).trans hr)

def E_s_l06Size : Tabs := (mkE tab [] [])
set_option maxRecDepth 4000 in
theorem ek_s_l06Size : EnvOK Try.prog E_s_l06Size := (mkE_ok tab_ok mixed AllF.nil AllX.nil)
theorem ev_s_l06Size (p : dPacking) (count : Int) : evalF E_s_l06Size noL Try.f26 [.rptr tPacking, .ro false (.int .i64)] (.one false (.int .i64)) (p, count, ()) = g_s_l06Size p count := by kernel_rfl
def m_s_l06Size : FM := { ps := [.rptr tPacking, .ro false (.int .i64)], res := .one false (.int .i64), run := fun x => some (t_s_l06Size x.1 x.2.1) }
set_option maxRecDepth 4000 in
theorem ok_s_l06Size : FmOK Try.prog 26 m_s_l06Size := @FmOK.made Try.prog E_s_l06Size ek_s_l06Size 26 Try.f26 noL m_s_l06Size Try.func26 (by kernel_rfl) (Loops.none (by kernel_rfl)) fun ds out _ hr => by obtain ⟨p, count, ⟨⟩⟩ := ds; exact (ev_s_l06Size p count).trans ((q_s_l06Size p count).trans hr)

def E_s_l06Parts : Tabs := (mkE tab [] [])
set_option maxRecDepth 4000 in
theorem ek_s_l06Parts : EnvOK Try.prog E_s_l06Parts := (mkE_ok tab_ok mixed AllF.nil AllX.nil)
def lm_L_s_l06Parts_1 : LM := { mat := [], head := { slots := [(0, .dat false (.ref tPacking)), (1, .dat false (.int .i64)), (5, .cst (.sl (.row 0))), (6, .dat false (.int .i64))], blks := [.row false (.int .i64)] }, out := { slots := [(5, .cst (.sl (.row 0)))], blks := [.row false (.int .i64)] }, ex := 0, rets := false, run := iter L_s_l06Parts_1 fuel }
def ll_s_l06Parts : List (Nat × LP) := [(3, .lm lm_L_s_l06Parts_1)]
theorem rd_L_s_l06Parts_1 (rec' : (dPacking × Int × Int × Unit) × ((List Int) × Unit) → Option ((Unit) × ((List Int) × Unit))) (p : dPacking) (count : Int) (i : Int) (r0 : (List Int)) : round E_s_l06Parts (lookL ll_s_l06Parts) lm_L_s_l06Parts_1 28 (loopAt Try.f51 0) rec' ((p, count, i, ()), (r0, ())) = L_s_l06Parts_1 rec' ((p, count, i, ()), (r0, ())) := by kernel_rfl
theorem lo_s_l06Parts : Loops E_s_l06Parts (lookL ll_s_l06Parts) Try.f51 := Loops.list (by kernel_rfl) (by kernel_rfl) ⟨LoopOK.iter (step := L_s_l06Parts_1) (N := fun _ => fuel) (fun rec' x => by obtain ⟨⟨p, count, i, ⟨⟩⟩, ⟨r0, ⟨⟩⟩⟩ := x; exact rd_L_s_l06Parts_1 rec' p count i r0) fun _ => rfl, trivial⟩
theorem ev_s_l06Parts (p : dPacking) (count : Int) : evalF E_s_l06Parts (lookL ll_s_l06Parts) Try.f51 [.rptr tPacking, .ro false (.int .i64)] (.one false (.slice (.int .i64))) (p, count, ()) = g_s_l06Parts p count := by kernel_rfl
def m_s_l06Parts : FM := { ps := [.rptr tPacking, .ro false (.int .i64)], res := .one false (.slice (.int .i64)), run := fun x => g_s_l06Parts x.1 x.2.1 }
set_option maxRecDepth 4000 in
theorem ok_s_l06Parts : FmOK Try.prog 51 m_s_l06Parts := @FmOK.made Try.prog E_s_l06Parts ek_s_l06Parts 51 Try.f51 (lookL ll_s_l06Parts) m_s_l06Parts Try.func51 (by kernel_rfl) lo_s_l06Parts fun ds out _ hr => by obtain ⟨p, count, ⟨⟩⟩ := ds; exact (ev_s_l06Parts p count).trans hr

def E_s_l06Bytes : Tabs := (mkE tab [] [])
set_option maxRecDepth 4000 in
theorem ek_s_l06Bytes : EnvOK Try.prog E_s_l06Bytes := (mkE_ok tab_ok mixed AllF.nil AllX.nil)
def lm_L_s_l06Bytes_2 : LM := { mat := [], head := { slots := [(0, .dat false (.slice (.int .i64))), (1, .dat false (.slice (.int .i64))), (5, .cst (.sl (.row 0))), (6, .dat false (.int .i64)), (7, .dat false (.int .i64)), (8, .dat false (.int .i64))], blks := [.row false (.int .u8)] }, out := { slots := [(0, .dat false (.slice (.int .i64))), (1, .dat false (.slice (.int .i64))), (5, .cst (.sl (.row 0))), (6, .dat false (.int .i64)), (7, .dat false (.int .i64))], blks := [.row false (.int .u8)] }, ex := 2, rets := false, run := iter L_s_l06Bytes_2 fuel }
def lm_L_s_l06Bytes_1 : LM := { mat := [], head := { slots := [(0, .dat false (.slice (.int .i64))), (1, .dat false (.slice (.int .i64))), (5, .cst (.sl (.row 0))), (6, .dat false (.int .i64)), (7, .dat false (.int .i64))], blks := [.row false (.int .u8)] }, out := { slots := [(5, .cst (.sl (.row 0)))], blks := [.row false (.int .u8)] }, ex := 0, rets := false, run := iter L_s_l06Bytes_1 fuel }
def ll_s_l06Bytes : List (Nat × LP) := [(4, .lm lm_L_s_l06Bytes_1), (7, .lm lm_L_s_l06Bytes_2)]
theorem rd_L_s_l06Bytes_2 (rec' : ((List Int) × (List Int) × Int × Int × Int × Unit) × ((List Int) × Unit) → Option (((List Int) × (List Int) × Int × Int × Unit) × ((List Int) × Unit))) (words : (List Int)) (sizes : (List Int)) (count : Int) (i : Int) (k : Int) (r0 : (List Int)) : round E_s_l06Bytes (lookL ll_s_l06Bytes) lm_L_s_l06Bytes_2 56 (loopAt Try.f77 1) rec' ((words, sizes, count, i, k, ()), (r0, ())) = L_s_l06Bytes_2 rec' ((words, sizes, count, i, k, ()), (r0, ())) := by kernel_rfl
theorem rd_L_s_l06Bytes_1 (rec' : ((List Int) × (List Int) × Int × Int × Unit) × ((List Int) × Unit) → Option ((Unit) × ((List Int) × Unit))) (words : (List Int)) (sizes : (List Int)) (count : Int) (i : Int) (r0 : (List Int)) : round E_s_l06Bytes (lookL ll_s_l06Bytes) lm_L_s_l06Bytes_1 56 (loopAt Try.f77 0) rec' ((words, sizes, count, i, ()), (r0, ())) = L_s_l06Bytes_1 rec' ((words, sizes, count, i, ()), (r0, ())) := by kernel_rfl
theorem lo_s_l06Bytes : Loops E_s_l06Bytes (lookL ll_s_l06Bytes) Try.f77 := Loops.list (by kernel_rfl) (by kernel_rfl) ⟨LoopOK.iter (step := L_s_l06Bytes_1) (N := fun _ => fuel) (fun rec' x => by obtain ⟨⟨words, sizes, count, i, ⟨⟩⟩, ⟨r0, ⟨⟩⟩⟩ := x; exact rd_L_s_l06Bytes_1 rec' words sizes count i r0) fun _ => rfl, LoopOK.iter (step := L_s_l06Bytes_2) (N := fun _ => fuel) (fun rec' x => by obtain ⟨⟨words, sizes, count, i, k, ⟨⟩⟩, ⟨r0, ⟨⟩⟩⟩ := x; exact rd_L_s_l06Bytes_2 rec' words sizes count i k r0) fun _ => rfl, trivial⟩
theorem ev_s_l06Bytes (words : (List Int)) (sizes : (List Int)) : evalF E_s_l06Bytes (lookL ll_s_l06Bytes) Try.f77 [.ro false (.slice (.int .i64)), .ro false (.slice (.int .i64))] (.one false .str) (words, sizes, ()) = g_s_l06Bytes words sizes := by kernel_rfl
def m_s_l06Bytes : FM := { ps := [.ro false (.slice (.int .i64)), .ro false (.slice (.int .i64))], res := .one false .str, run := fun x => g_s_l06Bytes x.1 x.2.1 }
set_option maxRecDepth 4000 in
theorem ok_s_l06Bytes : FmOK Try.prog 77 m_s_l06Bytes := @FmOK.made Try.prog E_s_l06Bytes ek_s_l06Bytes 77 Try.f77 (lookL ll_s_l06Bytes) m_s_l06Bytes Try.func77 (by kernel_rfl) lo_s_l06Bytes fun ds out _ hr => by obtain ⟨words, sizes, ⟨⟩⟩ := ds; exact (ev_s_l06Bytes words sizes).trans hr

def E_s_l06Words : Tabs := (mkE tab [(77, m_s_l06Bytes)] [])
set_option maxRecDepth 4000 in
theorem ek_s_l06Words : EnvOK Try.prog E_s_l06Words := (mkE_ok tab_ok mixed (AllF.cons ok_s_l06Bytes AllF.nil) AllX.nil)
def lm_L_s_l06Words_3 : LM := { mat := [], head := { slots := [(0, .dat false .str), (1, .dat false (.slice (.int .i64))), (8, .cst (.sl (.row 0))), (9, .dat false (.int .i64)), (10, .dat false (.int .i64)), (11, .dat false (.int .i64)), (12, .dat false (.int .i64))], blks := [.row false (.int .i64)] }, out := { slots := [(0, .dat false .str), (1, .dat false (.slice (.int .i64))), (8, .cst (.sl (.row 0))), (9, .dat false (.int .i64)), (10, .dat false (.int .i64)), (11, .dat false (.int .i64))], blks := [.row false (.int .i64)] }, ex := 4, rets := false, run := iter L_s_l06Words_3 fuel }
def lm_L_s_l06Words_2 : LM := { mat := [], head := { slots := [(0, .dat false .str), (1, .dat false (.slice (.int .i64))), (8, .cst (.sl (.row 0))), (9, .dat false (.int .i64)), (10, .dat false (.int .i64))], blks := [.row false (.int .i64)] }, out := { slots := [(0, .dat false .str), (1, .dat false (.slice (.int .i64))), (8, .cst (.sl (.row 0)))], blks := [.row false (.int .i64)] }, ex := 2, rets := false, run := iter L_s_l06Words_2 fuel }
def lm_L_s_l06Words_1 : LM := { mat := [], head := { slots := [(0, .dat false .str), (1, .dat false (.slice (.int .i64))), (6, .dat false (.int .i64)), (7, .dat false (.int .i64))], blks := [] }, out := { slots := [(0, .dat false .str), (1, .dat false (.slice (.int .i64))), (6, .dat false (.int .i64))], blks := [] }, ex := 0, rets := false, run := iter L_s_l06Words_1 fuel }
def ll_s_l06Words : List (Nat × LP) := [(3, .lm lm_L_s_l06Words_1), (11, .lm lm_L_s_l06Words_2), (15, .lm lm_L_s_l06Words_3)]
theorem rd_L_s_l06Words_3 (rec' : (ByteArray × (List Int) × Int × Int × Int × Int × Unit) × ((List Int) × Unit) → Option ((ByteArray × (List Int) × Int × Int × Int × Unit) × ((List Int) × Unit))) (s : ByteArray) (sizes : (List Int)) (atx : Int) (i : Int) (word : Int) (k : Int) (r0 : (List Int)) : round E_s_l06Words (lookL ll_s_l06Words) lm_L_s_l06Words_3 73 (loopAt Try.f50 2) rec' ((s, sizes, atx, i, word, k, ()), (r0, ())) = L_s_l06Words_3 rec' ((s, sizes, atx, i, word, k, ()), (r0, ())) := by kernel_rfl
theorem rd_L_s_l06Words_2 (rec' : (ByteArray × (List Int) × Int × Int × Unit) × ((List Int) × Unit) → Option ((ByteArray × (List Int) × Unit) × ((List Int) × Unit))) (s : ByteArray) (sizes : (List Int)) (atx : Int) (i : Int) (r0 : (List Int)) : round E_s_l06Words (lookL ll_s_l06Words) lm_L_s_l06Words_2 73 (loopAt Try.f50 1) rec' ((s, sizes, atx, i, ()), (r0, ())) = L_s_l06Words_2 rec' ((s, sizes, atx, i, ()), (r0, ())) := by kernel_rfl
theorem rd_L_s_l06Words_1 (rec' : (ByteArray × (List Int) × Int × Int × Unit) × (Unit) → Option ((ByteArray × (List Int) × Int × Unit) × (Unit))) (s : ByteArray) (sizes : (List Int)) (sum : Int) (i : Int) : round E_s_l06Words (lookL ll_s_l06Words) lm_L_s_l06Words_1 73 (loopAt Try.f50 0) rec' ((s, sizes, sum, i, ()), (())) = L_s_l06Words_1 rec' ((s, sizes, sum, i, ()), (())) := by kernel_rfl
theorem lo_s_l06Words : Loops E_s_l06Words (lookL ll_s_l06Words) Try.f50 := Loops.list (by kernel_rfl) (by kernel_rfl) ⟨LoopOK.iter (step := L_s_l06Words_1) (N := fun _ => fuel) (fun rec' x => by obtain ⟨⟨s, sizes, sum, i, ⟨⟩⟩, ⟨⟨⟩⟩⟩ := x; exact rd_L_s_l06Words_1 rec' s sizes sum i) fun _ => rfl, LoopOK.iter (step := L_s_l06Words_2) (N := fun _ => fuel) (fun rec' x => by obtain ⟨⟨s, sizes, atx, i, ⟨⟩⟩, ⟨r0, ⟨⟩⟩⟩ := x; exact rd_L_s_l06Words_2 rec' s sizes atx i r0) fun _ => rfl, LoopOK.iter (step := L_s_l06Words_3) (N := fun _ => fuel) (fun rec' x => by obtain ⟨⟨s, sizes, atx, i, word, k, ⟨⟩⟩, ⟨r0, ⟨⟩⟩⟩ := x; exact rd_L_s_l06Words_3 rec' s sizes atx i word k r0) fun _ => rfl, trivial⟩
theorem ev_s_l06Words (s : ByteArray) (sizes : (List Int)) : evalF E_s_l06Words (lookL ll_s_l06Words) Try.f50 [.ro false .str, .ro false (.slice (.int .i64))] (.tup [(false, (.slice (.int .i64))), (false, .bool)]) (s, sizes, ()) = g_s_l06Words s sizes := by kernel_rfl
def m_s_l06Words : FM := { ps := [.ro false .str, .ro false (.slice (.int .i64))], res := .tup [(false, (.slice (.int .i64))), (false, .bool)], run := fun x => g_s_l06Words x.1 x.2.1 }
set_option maxRecDepth 4000 in
theorem ok_s_l06Words : FmOK Try.prog 50 m_s_l06Words := @FmOK.made Try.prog E_s_l06Words ek_s_l06Words 50 Try.f50 (lookL ll_s_l06Words) m_s_l06Words Try.func50 (by kernel_rfl) lo_s_l06Words fun ds out _ hr => by obtain ⟨s, sizes, ⟨⟩⟩ := ds; exact (ev_s_l06Words s sizes).trans hr

def E_s_l06Most : Tabs := (mkE tab [] [])
set_option maxRecDepth 4000 in
theorem ek_s_l06Most : EnvOK Try.prog E_s_l06Most := (mkE_ok tab_ok mixed AllF.nil AllX.nil)
theorem ev_s_l06Most (bits : Int) : evalF E_s_l06Most noL Try.f78 [.ro false (.int .i64)] (.one false (.int .i64)) (bits, ()) = g_s_l06Most bits := by kernel_rfl
def m_s_l06Most : FM := { ps := [.ro false (.int .i64)], res := .one false (.int .i64), run := fun x => g_s_l06Most x.1 }
set_option maxRecDepth 4000 in
theorem ok_s_l06Most : FmOK Try.prog 78 m_s_l06Most := @FmOK.made Try.prog E_s_l06Most ek_s_l06Most 78 Try.f78 noL m_s_l06Most Try.func78 (by kernel_rfl) (Loops.none (by kernel_rfl)) fun ds out _ hr => by obtain ⟨bits, ⟨⟩⟩ := ds; exact (ev_s_l06Most bits).trans hr

def E_s_l01Narrow : Tabs := (mkE tab [] [])
set_option maxRecDepth 4000 in
theorem ek_s_l01Narrow : EnvOK Try.prog E_s_l01Narrow := (mkE_ok tab_ok mixed AllF.nil AllX.nil)
theorem ev_s_l01Narrow (xx : Nat) : evalF E_s_l01Narrow noL Try.f104 [.ro false (.flt .f64)] (.one false (.flt .f32)) (xx, ()) = g_s_l01Narrow xx := by kernel_rfl
def m_s_l01Narrow : FM := { ps := [.ro false (.flt .f64)], res := .one false (.flt .f32), run := fun x => g_s_l01Narrow x.1 }
set_option maxRecDepth 4000 in
theorem ok_s_l01Narrow : FmOK Try.prog 104 m_s_l01Narrow := @FmOK.made Try.prog E_s_l01Narrow ek_s_l01Narrow 104 Try.f104 noL m_s_l01Narrow Try.func104 (by kernel_rfl) (Loops.none (by kernel_rfl)) fun ds out _ hr => by obtain ⟨xx, ⟨⟩⟩ := ds; exact (ev_s_l01Narrow xx).trans hr

def E_s_l06Number : Tabs := (mkE tab [(78, m_s_l06Most), (104, m_s_l01Narrow)] [])
set_option maxRecDepth 4000 in
theorem ek_s_l06Number : EnvOK Try.prog E_s_l06Number := (mkE_ok tab_ok mixed (AllF.cons ok_s_l06Most (AllF.cons ok_s_l01Narrow AllF.nil)) AllX.nil)
theorem ev_s_l06Number (code : Int) (low : Nat) (high : Nat) (bits : Int) : evalF E_s_l06Number noL Try.f79 [.ro false (.int .i64), .ro false (.flt .f32), .ro false (.flt .f32), .ro false (.int .i64)] (.one false (.flt .f32)) (code, low, high, bits, ()) = g_s_l06Number code low high bits := by kernel_rfl
def m_s_l06Number : FM := { ps := [.ro false (.int .i64), .ro false (.flt .f32), .ro false (.flt .f32), .ro false (.int .i64)], res := .one false (.flt .f32), run := fun x => g_s_l06Number x.1 x.2.1 x.2.2.1 x.2.2.2.1 }
set_option maxRecDepth 4000 in
theorem ok_s_l06Number : FmOK Try.prog 79 m_s_l06Number := @FmOK.made Try.prog E_s_l06Number ek_s_l06Number 79 Try.f79 noL m_s_l06Number Try.func79 (by kernel_rfl) (Loops.none (by kernel_rfl)) fun ds out _ hr => by obtain ⟨code, low, high, bits, ⟨⟩⟩ := ds; exact (ev_s_l06Number code low high bits).trans hr

def E_s_l06OpenVector : Tabs := (mkE tab [(78, m_s_l06Most), (79, m_s_l06Number)] [])
set_option maxRecDepth 4000 in
theorem ek_s_l06OpenVector : EnvOK Try.prog E_s_l06OpenVector := (mkE_ok tab_ok mixed (AllF.cons ok_s_l06Most (AllF.cons ok_s_l06Number AllF.nil)) AllX.nil)
theorem ev_s_l06OpenVector (word : Int) (reach : Nat) (bits : Int) : evalF E_s_l06OpenVector noL Try.f52 [.ro false (.int .i64), .ro false (.flt .f32), .ro false (.int .i64)] (.one true tVec) (word, reach, bits, ()) = g_s_l06OpenVector word reach bits := by kernel_rfl
def m_s_l06OpenVector : FM := { ps := [.ro false (.int .i64), .ro false (.flt .f32), .ro false (.int .i64)], res := .one true tVec, run := fun x => g_s_l06OpenVector x.1 x.2.1 x.2.2.1 }
set_option maxRecDepth 4000 in
theorem ok_s_l06OpenVector : FmOK Try.prog 52 m_s_l06OpenVector := @FmOK.made Try.prog E_s_l06OpenVector ek_s_l06OpenVector 52 Try.f52 noL m_s_l06OpenVector Try.func52 (by kernel_rfl) (Loops.none (by kernel_rfl)) fun ds out _ hr => by obtain ⟨word, reach, bits, ⟨⟩⟩ := ds; exact (ev_s_l06OpenVector word reach bits).trans hr

set_option maxRecDepth 4000 in
theorem ok_mathsqrt : FmOK Try.prog 118 m_mathsqrt := FmOK.sqrt Try.func118 (by kernel_rfl) rfl (by kernel_rfl) (by kernel_rfl)

def E_math_Sqrt : Tabs := (mkE tab [(118, m_mathsqrt)] [])
set_option maxRecDepth 4000 in
theorem ek_math_Sqrt : EnvOK Try.prog E_math_Sqrt := (mkE_ok tab_ok mixed (AllF.cons ok_mathsqrt AllF.nil) AllX.nil)
theorem ev_math_Sqrt (xx : Nat) : evalF E_math_Sqrt noL Try.f105 [.ro false (.flt .f64)] (.one false (.flt .f64)) (xx, ()) = g_math_Sqrt xx := by kernel_rfl
def m_math_Sqrt : FM := { ps := [.ro false (.flt .f64)], res := .one false (.flt .f64), run := fun x => some (t_math_Sqrt x.1) }
set_option maxRecDepth 4000 in
theorem ok_math_Sqrt : FmOK Try.prog 105 m_math_Sqrt := @FmOK.made Try.prog E_math_Sqrt ek_math_Sqrt 105 Try.f105 noL m_math_Sqrt Try.func105 (by kernel_rfl) (Loops.none (by kernel_rfl)) fun ds out _ hr => by obtain ⟨xx, ⟨⟩⟩ := ds; exact (ev_math_Sqrt xx).trans ((q_math_Sqrt xx).trans hr)

def E_s_l01Sqrt : Tabs := (mkE tab [(105, m_math_Sqrt), (104, m_s_l01Narrow)] [])
set_option maxRecDepth 4000 in
theorem ek_s_l01Sqrt : EnvOK Try.prog E_s_l01Sqrt := (mkE_ok tab_ok mixed (AllF.cons ok_math_Sqrt (AllF.cons ok_s_l01Narrow AllF.nil)) AllX.nil)
theorem ev_s_l01Sqrt (xx : Nat) : evalF E_s_l01Sqrt noL Try.f80 [.ro false (.flt .f32)] (.one false (.flt .f32)) (xx, ()) = g_s_l01Sqrt xx := by kernel_rfl
def m_s_l01Sqrt : FM := { ps := [.ro false (.flt .f32)], res := .one false (.flt .f32), run := fun x => g_s_l01Sqrt x.1 }
set_option maxRecDepth 4000 in
theorem ok_s_l01Sqrt : FmOK Try.prog 80 m_s_l01Sqrt := @FmOK.made Try.prog E_s_l01Sqrt ek_s_l01Sqrt 80 Try.f80 noL m_s_l01Sqrt Try.func80 (by kernel_rfl) (Loops.none (by kernel_rfl)) fun ds out _ hr => by obtain ⟨xx, ⟨⟩⟩ := ds; exact (ev_s_l01Sqrt xx).trans hr

def E_s_l02Inner : Tabs := (mkE tab [] [])
set_option maxRecDepth 4000 in
theorem ek_s_l02Inner : EnvOK Try.prog E_s_l02Inner := (mkE_ok tab_ok mixed AllF.nil AllX.nil)
theorem ev_s_l02Inner (a : dTurn) (b : dTurn) : evalF E_s_l02Inner noL Try.f106 [.ro true tTurn, .ro true tTurn] (.one false (.flt .f32)) (a, b, ()) = g_s_l02Inner a b := by kernel_rfl
def m_s_l02Inner : FM := { ps := [.ro true tTurn, .ro true tTurn], res := .one false (.flt .f32), run := fun x => some (t_s_l02Inner x.1 x.2.1) }
set_option maxRecDepth 4000 in
theorem ok_s_l02Inner : FmOK Try.prog 106 m_s_l02Inner := @FmOK.made Try.prog E_s_l02Inner ek_s_l02Inner 106 Try.f106 noL m_s_l02Inner Try.func106 (by kernel_rfl) (Loops.none (by kernel_rfl)) fun ds out _ hr => by obtain ⟨a, b, ⟨⟩⟩ := ds; exact (ev_s_l02Inner a b).trans ((q_s_l02Inner a b).trans hr)

def E_s_l02No : Tabs := (mkE tab [] [])
set_option maxRecDepth 4000 in
theorem ek_s_l02No : EnvOK Try.prog E_s_l02No := (mkE_ok tab_ok mixed AllF.nil AllX.nil)
theorem ev_s_l02No  : evalF E_s_l02No noL Try.f107 [] (.one true tTurn) (()) = g_s_l02No  := by kernel_rfl
def m_s_l02No : FM := { ps := [], res := .one true tTurn, run := fun x => some (t_s_l02No ) }
set_option maxRecDepth 4000 in
theorem ok_s_l02No : FmOK Try.prog 107 m_s_l02No := @FmOK.made Try.prog E_s_l02No ek_s_l02No 107 Try.f107 noL m_s_l02No Try.func107 (by kernel_rfl) (Loops.none (by kernel_rfl)) fun ds out _ hr => by obtain ⟨⟨⟩⟩ := ds; exact (ev_s_l02No ).trans ((q_s_l02No ).trans hr)

def E_s_l02Mend : Tabs := (mkE tab [(106, m_s_l02Inner), (80, m_s_l01Sqrt), (107, m_s_l02No), (76, m_s_l01Finite)] [])
set_option maxRecDepth 4000 in
theorem ek_s_l02Mend : EnvOK Try.prog E_s_l02Mend := (mkE_ok tab_ok mixed (AllF.cons ok_s_l02Inner (AllF.cons ok_s_l01Sqrt (AllF.cons ok_s_l02No (AllF.cons ok_s_l01Finite AllF.nil)))) AllX.nil)
theorem ev_s_l02Mend (t : dTurn) : evalF E_s_l02Mend noL Try.f81 [.ro true tTurn] (.one true tTurn) (t, ()) = g_s_l02Mend t := by kernel_rfl
def m_s_l02Mend : FM := { ps := [.ro true tTurn], res := .one true tTurn, run := fun x => g_s_l02Mend x.1 }
set_option maxRecDepth 4000 in
theorem ok_s_l02Mend : FmOK Try.prog 81 m_s_l02Mend := @FmOK.made Try.prog E_s_l02Mend ek_s_l02Mend 81 Try.f81 noL m_s_l02Mend Try.func81 (by kernel_rfl) (Loops.none (by kernel_rfl)) fun ds out _ hr => by obtain ⟨t, ⟨⟩⟩ := ds; exact (ev_s_l02Mend t).trans hr

def E_s_l06Unpack : Tabs := (mkE tab [(78, m_s_l06Most), (79, m_s_l06Number), (80, m_s_l01Sqrt), (81, m_s_l02Mend)] [])
set_option maxRecDepth 4000 in
theorem ek_s_l06Unpack : EnvOK Try.prog E_s_l06Unpack := (mkE_ok tab_ok mixed (AllF.cons ok_s_l06Most (AllF.cons ok_s_l06Number (AllF.cons ok_s_l01Sqrt (AllF.cons ok_s_l02Mend AllF.nil)))) AllX.nil)
theorem ev_s_l06Unpack (word : Int) (bits : Int) : evalF E_s_l06Unpack noL Try.f53 [.ro false (.int .i64), .ro false (.int .i64)] (.one true tTurn) (word, bits, ()) = g_s_l06Unpack word bits := by kernel_rfl
def m_s_l06Unpack : FM := { ps := [.ro false (.int .i64), .ro false (.int .i64)], res := .one true tTurn, run := fun x => g_s_l06Unpack x.1 x.2.1 }
set_option maxRecDepth 4000 in
theorem ok_s_l06Unpack : FmOK Try.prog 53 m_s_l06Unpack := @FmOK.made Try.prog E_s_l06Unpack ek_s_l06Unpack 53 Try.f53 noL m_s_l06Unpack Try.func53 (by kernel_rfl) (Loops.none (by kernel_rfl)) fun ds out _ hr => by obtain ⟨word, bits, ⟨⟩⟩ := ds; exact (ev_s_l06Unpack word bits).trans hr

def E_s_l06Open : Tabs := (mkE tab [(51, m_s_l06Parts), (50, m_s_l06Words), (52, m_s_l06OpenVector), (53, m_s_l06Unpack)] [])
set_option maxRecDepth 4000 in
theorem ek_s_l06Open : EnvOK Try.prog E_s_l06Open := (mkE_ok tab_ok mixed (AllF.cons ok_s_l06Parts (AllF.cons ok_s_l06Words (AllF.cons ok_s_l06OpenVector (AllF.cons ok_s_l06Unpack AllF.nil)))) AllX.nil)
def lm_L_s_l06Open_1 : LM := { mat := [], head := { slots := [(0, .dat false (.ref tPacking)), (6, .cst (.ptr (.box 0 0))), (8, .cst (.sl (.row 2))), (10, .cst (.ptr (.box 4 0))), (11, .dat false (.int .i64))], blks := [.box [.dat tVec, .cst (.sl .nil)], .dead, .row false (.int .i64), .row false tTurn, .box [.dat tVec, .cst (.sl (.row 3))]] }, out := { slots := [(6, .cst (.ptr (.box 0 0))), (10, .cst (.ptr (.box 4 0)))], blks := [.box [.dat tVec, .cst (.sl .nil)], .dead, .dead, .row false tTurn, .box [.dat tVec, .cst (.sl (.row 3))]] }, ex := 0, rets := false, run := iter L_s_l06Open_1 fuel }
def ll_s_l06Open : List (Nat × LP) := [(6, .lm lm_L_s_l06Open_1)]
theorem rd_L_s_l06Open_1 (rec' : (dPacking × Int × Unit) × ((dVec × Unit) × (List Int) × (List dTurn) × (dVec × Unit) × Unit) → Option ((Unit) × ((dVec × Unit) × (List dTurn) × (dVec × Unit) × Unit))) (p : dPacking) (i : Int) (b0 : dVec) (r2 : (List Int)) (r3 : (List dTurn)) (b4 : dVec) : round E_s_l06Open (lookL ll_s_l06Open) lm_L_s_l06Open_1 58 (loopAt Try.f27 0) rec' ((p, i, ()), ((b0, ()), r2, r3, (b4, ()), ())) = L_s_l06Open_1 rec' ((p, i, ()), ((b0, ()), r2, r3, (b4, ()), ())) := by kernel_rfl
theorem lo_s_l06Open : Loops E_s_l06Open (lookL ll_s_l06Open) Try.f27 := Loops.list (by kernel_rfl) (by kernel_rfl) ⟨LoopOK.iter (step := L_s_l06Open_1) (N := fun _ => fuel) (fun rec' x => by obtain ⟨⟨p, i, ⟨⟩⟩, ⟨⟨b0, ⟨⟩⟩, r2, r3, ⟨b4, ⟨⟩⟩, ⟨⟩⟩⟩ := x; exact rd_L_s_l06Open_1 rec' p i b0 r2 r3 b4) fun _ => rfl, trivial⟩
theorem ev_s_l06Open (p : dPacking) (count : Int) (s : ByteArray) : evalF E_s_l06Open (lookL ll_s_l06Open) Try.f27 [.rptr tPacking, .ro false (.int .i64), .ro false .str] (.tup [(true, tPose), (false, .bool)]) (p, count, s, ()) = g_s_l06Open p count s := by kernel_rfl
def m_s_l06Open : FM := { ps := [.rptr tPacking, .ro false (.int .i64), .ro false .str], res := .tup [(true, tPose), (false, .bool)], run := fun x => g_s_l06Open x.1 x.2.1 x.2.2.1 }
set_option maxRecDepth 4000 in
theorem ok_s_l06Open : FmOK Try.prog 27 m_s_l06Open := @FmOK.made Try.prog E_s_l06Open ek_s_l06Open 27 Try.f27 (lookL ll_s_l06Open) m_s_l06Open Try.func27 (by kernel_rfl) lo_s_l06Open fun ds out _ hr => by obtain ⟨p, count, s, ⟨⟩⟩ := ds; exact (ev_s_l06Open p count s).trans hr

def E_s_UnpackPoses : Tabs := (mkE tab [(24, m_s_l06Is), (25, m_s_l06Count), (26, m_s_l06Size), (27, m_s_l06Open)] [])
set_option maxRecDepth 4000 in
theorem ek_s_UnpackPoses : EnvOK Try.prog E_s_UnpackPoses := (mkE_ok tab_ok mixed (AllF.cons ok_s_l06Is (AllF.cons ok_s_l06Count (AllF.cons ok_s_l06Size (AllF.cons ok_s_l06Open AllF.nil)))) AllX.nil)
def lm_L_s_UnpackPoses_1 : LM := { mat := [], head := { slots := [(1, .dat false (.int .i64)), (2, .dat false .str), (3, .cst (.ptr (.box 0 0))), (6, .cst (.sl .nil)), (7, .dat false .bool), (8, .cst (.sl (.row 1))), (9, .dat false (.int .i64)), (10, .dat false (.int .i64))], blks := [.box [.dat tPacking], .row false tPose] }, out := { slots := [(6, .cst (.sl .nil)), (7, .dat false .bool), (8, .cst (.sl (.row 1)))], blks := [.dead, .row false tPose] }, ex := 0, rets := true, run := iter L_s_UnpackPoses_1 fuel }
def ll_s_UnpackPoses : List (Nat × LP) := [(6, .lm lm_L_s_UnpackPoses_1)]
theorem rd_L_s_UnpackPoses_1 (rec' : (Int × ByteArray × Bool × Int × Int × Unit) × ((dPacking × Unit) × (List dPose) × Unit) → Option (Bool × ((Bool × Unit) × ((List dPose) × Unit)))) (count : Int) (s : ByteArray) (t7 : Bool) (size : Int) (atx : Int) (b0 : dPacking) (r1 : (List dPose)) : round E_s_UnpackPoses (lookL ll_s_UnpackPoses) lm_L_s_UnpackPoses_1 61 (loopAt Try.f5 0) rec' ((count, s, t7, size, atx, ()), ((b0, ()), r1, ())) = L_s_UnpackPoses_1 rec' ((count, s, t7, size, atx, ()), ((b0, ()), r1, ())) := by kernel_rfl
theorem lo_s_UnpackPoses : Loops E_s_UnpackPoses (lookL ll_s_UnpackPoses) Try.f5 := Loops.list (by kernel_rfl) (by kernel_rfl) ⟨LoopOK.iter (step := L_s_UnpackPoses_1) (N := fun _ => fuel) (fun rec' x => by obtain ⟨⟨count, s, t7, size, atx, ⟨⟩⟩, ⟨⟨b0, ⟨⟩⟩, r1, ⟨⟩⟩⟩ := x; exact rd_L_s_UnpackPoses_1 rec' count s t7 size atx b0 r1) fun _ => rfl, trivial⟩
theorem ev_s_UnpackPoses (p : dPacking) (count : Int) (s : ByteArray) : evalF E_s_UnpackPoses (lookL ll_s_UnpackPoses) Try.f5 [.ro true tPacking, .ro false (.int .i64), .ro false .str] (.tup [(false, (.slice tPose)), (false, .bool)]) (p, count, s, ()) = g_s_UnpackPoses p count s := by kernel_rfl
def m_s_UnpackPoses : FM := { ps := [.ro true tPacking, .ro false (.int .i64), .ro false .str], res := .tup [(false, (.slice tPose)), (false, .bool)], run := fun x => g_s_UnpackPoses x.1 x.2.1 x.2.2.1 }
set_option maxRecDepth 4000 in
theorem ok_s_UnpackPoses : FmOK Try.prog 5 m_s_UnpackPoses := @FmOK.made Try.prog E_s_UnpackPoses ek_s_UnpackPoses 5 Try.f5 (lookL ll_s_UnpackPoses) m_s_UnpackPoses Try.func5 (by kernel_rfl) lo_s_UnpackPoses fun ds out _ hr => by obtain ⟨p, count, s, ⟨⟩⟩ := ds; exact (ev_s_UnpackPoses p count s).trans hr

def E_i_areBits : Tabs := (mkE tab [] [])
set_option maxRecDepth 4000 in
theorem ek_i_areBits : EnvOK Try.prog E_i_areBits := (mkE_ok tab_ok mixed AllF.nil AllX.nil)
theorem ev_i_areBits (bits : Int) : evalF E_i_areBits noL Try.f82 [.ro false (.int .i64)] (.one false .bool) (bits, ()) = g_i_areBits bits := by kernel_rfl
def m_i_areBits : FM := { ps := [.ro false (.int .i64)], res := .one false .bool, run := fun x => some (t_i_areBits x.1) }
set_option maxRecDepth 4000 in
theorem ok_i_areBits : FmOK Try.prog 82 m_i_areBits := @FmOK.made Try.prog E_i_areBits ek_i_areBits 82 Try.f82 noL m_i_areBits Try.func82 (by kernel_rfl) (Loops.none (by kernel_rfl)) fun ds out _ hr => by obtain ⟨bits, ⟨⟩⟩ := ds; exact (ev_i_areBits bits).trans ((q_i_areBits bits).trans hr)

def E_i_IsFinite : Tabs := (mkE tab [] [])
set_option maxRecDepth 4000 in
theorem ek_i_IsFinite : EnvOK Try.prog E_i_IsFinite := (mkE_ok tab_ok mixed AllF.nil AllX.nil)
theorem ev_i_IsFinite (xx : Nat) : evalF E_i_IsFinite noL Try.f108 [.ro false (.flt .f32)] (.one false .bool) (xx, ()) = g_i_IsFinite xx := by kernel_rfl
def m_i_IsFinite : FM := { ps := [.ro false (.flt .f32)], res := .one false .bool, run := fun x => some (t_i_IsFinite x.1) }
set_option maxRecDepth 4000 in
theorem ok_i_IsFinite : FmOK Try.prog 108 m_i_IsFinite := @FmOK.made Try.prog E_i_IsFinite ek_i_IsFinite 108 Try.f108 noL m_i_IsFinite Try.func108 (by kernel_rfl) (Loops.none (by kernel_rfl)) fun ds out _ hr => by obtain ⟨xx, ⟨⟩⟩ := ds; exact (ev_i_IsFinite xx).trans ((q_i_IsFinite xx).trans hr)

def E_i_isPositive : Tabs := (mkE tab [(108, m_i_IsFinite)] [])
set_option maxRecDepth 4000 in
theorem ek_i_isPositive : EnvOK Try.prog E_i_isPositive := (mkE_ok tab_ok mixed (AllF.cons ok_i_IsFinite AllF.nil) AllX.nil)
theorem ev_i_isPositive (xx : Nat) : evalF E_i_isPositive noL Try.f83 [.ro false (.flt .f32)] (.one false .bool) (xx, ()) = g_i_isPositive xx := by kernel_rfl
def m_i_isPositive : FM := { ps := [.ro false (.flt .f32)], res := .one false .bool, run := fun x => some (t_i_isPositive x.1) }
set_option maxRecDepth 4000 in
theorem ok_i_isPositive : FmOK Try.prog 83 m_i_isPositive := @FmOK.made Try.prog E_i_isPositive ek_i_isPositive 83 Try.f83 noL m_i_isPositive Try.func83 (by kernel_rfl) (Loops.none (by kernel_rfl)) fun ds out _ hr => by obtain ⟨xx, ⟨⟩⟩ := ds; exact (ev_i_isPositive xx).trans ((q_i_isPositive xx).trans hr)

def E_i_ValidPacking : Tabs := (mkE tab [(82, m_i_areBits), (83, m_i_isPositive)] [])
set_option maxRecDepth 4000 in
theorem ek_i_ValidPacking : EnvOK Try.prog E_i_ValidPacking := (mkE_ok tab_ok mixed (AllF.cons ok_i_areBits (AllF.cons ok_i_isPositive AllF.nil)) AllX.nil)
theorem ev_i_ValidPacking (p : dPacking) : evalF E_i_ValidPacking noL Try.f54 [.ro true tPacking] (.one false .bool) (p, ()) = g_i_ValidPacking p := by kernel_rfl
def m_i_ValidPacking : FM := { ps := [.ro true tPacking], res := .one false .bool, run := fun x => some (t_i_ValidPacking x.1) }
set_option maxRecDepth 4000 in
theorem ok_i_ValidPacking : FmOK Try.prog 54 m_i_ValidPacking := @FmOK.made Try.prog E_i_ValidPacking ek_i_ValidPacking 54 Try.f54 noL m_i_ValidPacking Try.func54 (by kernel_rfl) (Loops.none (by kernel_rfl)) fun ds out _ hr => by obtain ⟨p, ⟨⟩⟩ := ds; exact (ev_i_ValidPacking p).trans ((q_i_ValidPacking p).trans hr)

def E_i_isCount : Tabs := (mkE tab [] [])
set_option maxRecDepth 4000 in
theorem ek_i_isCount : EnvOK Try.prog E_i_isCount := (mkE_ok tab_ok mixed AllF.nil AllX.nil)
theorem ev_i_isCount (count : Int) : evalF E_i_isCount noL Try.f55 [.ro false (.int .i64)] (.one false .bool) (count, ()) = g_i_isCount count := by kernel_rfl
def m_i_isCount : FM := { ps := [.ro false (.int .i64)], res := .one false .bool, run := fun x => some (t_i_isCount x.1) }
set_option maxRecDepth 4000 in
theorem ok_i_isCount : FmOK Try.prog 55 m_i_isCount := @FmOK.made Try.prog E_i_isCount ek_i_isCount 55 Try.f55 noL m_i_isCount Try.func55 (by kernel_rfl) (Loops.none (by kernel_rfl)) fun ds out _ hr => by obtain ⟨count, ⟨⟩⟩ := ds; exact (ev_i_isCount count).trans ((q_i_isCount count).trans hr)

def E_i_PackedSize : Tabs := (mkE tab [(54, m_i_ValidPacking), (55, m_i_isCount)] [])
set_option maxRecDepth 4000 in
theorem ek_i_PackedSize : EnvOK Try.prog E_i_PackedSize := (mkE_ok tab_ok mixed (AllF.cons ok_i_ValidPacking (AllF.cons ok_i_isCount AllF.nil)) AllX.nil)
theorem ev_i_PackedSize (p : dPacking) (count : Int) : evalF E_i_PackedSize noL Try.f28 [.ro true tPacking, .ro false (.int .i64)] (.tup [(false, (.int .i64)), (false, .bool)]) (p, count, ()) = g_i_PackedSize p count := by kernel_rfl
def m_i_PackedSize : FM := { ps := [.ro true tPacking, .ro false (.int .i64)], res := .tup [(false, (.int .i64)), (false, .bool)], run := fun x => some (t_i_PackedSize x.1 x.2.1) }
set_option maxRecDepth 4000 in
theorem ok_i_PackedSize : FmOK Try.prog 28 m_i_PackedSize := @FmOK.made Try.prog E_i_PackedSize ek_i_PackedSize 28 Try.f28 noL m_i_PackedSize Try.func28 (by kernel_rfl) (Loops.none (by kernel_rfl)) fun ds out _ hr => by obtain ⟨p, count, ⟨⟩⟩ := ds; exact (ev_i_PackedSize p count).trans ((q_i_PackedSize p count).trans hr)

def E_i_Packing_sizes : Tabs := (mkE tab [] [])
set_option maxRecDepth 4000 in
theorem ek_i_Packing_sizes : EnvOK Try.prog E_i_Packing_sizes := (mkE_ok tab_ok mixed AllF.nil AllX.nil)
def lm_L_i_Packing_sizes_1 : LM := { mat := [], head := { slots := [(2, .cst (.ptr (.box 0 0))), (5, .cst (.sl (.row 1))), (10, .dat false (.int .i64)), (11, .dat false (.int .i64))], blks := [.box [.dat tPacking], .row false (.int .i64)] }, out := { slots := [(5, .cst (.sl (.row 1)))], blks := [.dead, .row false (.int .i64)] }, ex := 0, rets := false, run := iter L_i_Packing_sizes_1 fuel }
def ll_i_Packing_sizes : List (Nat × LP) := [(3, .lm lm_L_i_Packing_sizes_1)]
theorem rd_L_i_Packing_sizes_1 (rec' : (Int × Int × Unit) × ((dPacking × Unit) × (List Int) × Unit) → Option ((Unit) × ((List Int) × Unit))) (t10 : Int) (t11 : Int) (b0 : dPacking) (r1 : (List Int)) : round E_i_Packing_sizes (lookL ll_i_Packing_sizes) lm_L_i_Packing_sizes_1 22 (loopAt Try.f57 0) rec' ((t10, t11, ()), ((b0, ()), r1, ())) = L_i_Packing_sizes_1 rec' ((t10, t11, ()), ((b0, ()), r1, ())) := by kernel_rfl
theorem lo_i_Packing_sizes : Loops E_i_Packing_sizes (lookL ll_i_Packing_sizes) Try.f57 := Loops.list (by kernel_rfl) (by kernel_rfl) ⟨LoopOK.iter (step := L_i_Packing_sizes_1) (N := fun _ => fuel) (fun rec' x => by obtain ⟨⟨t10, t11, ⟨⟩⟩, ⟨⟨b0, ⟨⟩⟩, r1, ⟨⟩⟩⟩ := x; exact rd_L_i_Packing_sizes_1 rec' t10 t11 b0 r1) fun _ => rfl, trivial⟩
theorem ev_i_Packing_sizes (p : dPacking) (count : Int) : evalF E_i_Packing_sizes (lookL ll_i_Packing_sizes) Try.f57 [.ro true tPacking, .ro false (.int .i64)] (.one false (.slice (.int .i64))) (p, count, ()) = g_i_Packing_sizes p count := by kernel_rfl
def m_i_Packing_sizes : FM := { ps := [.ro true tPacking, .ro false (.int .i64)], res := .one false (.slice (.int .i64)), run := fun x => g_i_Packing_sizes x.1 x.2.1 }
set_option maxRecDepth 4000 in
theorem ok_i_Packing_sizes : FmOK Try.prog 57 m_i_Packing_sizes := @FmOK.made Try.prog E_i_Packing_sizes ek_i_Packing_sizes 57 Try.f57 (lookL ll_i_Packing_sizes) m_i_Packing_sizes Try.func57 (by kernel_rfl) lo_i_Packing_sizes fun ds out _ hr => by obtain ⟨p, count, ⟨⟩⟩ := ds; exact (ev_i_Packing_sizes p count).trans hr

def E_i_areSizes : Tabs := (mkE tab [] [])
set_option maxRecDepth 4000 in
theorem ek_i_areSizes : EnvOK Try.prog E_i_areSizes := (mkE_ok tab_ok mixed AllF.nil AllX.nil)
def lm_L_i_areSizes_1 : LM := { mat := [], head := { slots := [(0, .dat false (.slice (.int .i64))), (2, .dat false .bool), (5, .dat false (.slice (.int .i64))), (6, .dat false (.int .i64)), (7, .dat false (.int .i64))], blks := [] }, out := { slots := [(0, .dat false (.slice (.int .i64))), (2, .dat false .bool)], blks := [] }, ex := 0, rets := true, run := iter L_i_areSizes_1 fuel }
def ll_i_areSizes : List (Nat × LP) := [(2, .lm lm_L_i_areSizes_1)]
theorem rd_L_i_areSizes_1 (rec' : ((List Int) × Bool × (List Int) × Int × Int × Unit) × (Unit) → Option (Bool × (((List Int) × Bool × Unit) × (Unit)))) (sizes : (List Int)) (t2 : Bool) (t5 : (List Int)) (t6 : Int) (t7 : Int) : round E_i_areSizes (lookL ll_i_areSizes) lm_L_i_areSizes_1 21 (loopAt Try.f84 0) rec' ((sizes, t2, t5, t6, t7, ()), (())) = L_i_areSizes_1 rec' ((sizes, t2, t5, t6, t7, ()), (())) := by kernel_rfl
theorem lo_i_areSizes : Loops E_i_areSizes (lookL ll_i_areSizes) Try.f84 := Loops.list (by kernel_rfl) (by kernel_rfl) ⟨LoopOK.iter (step := L_i_areSizes_1) (N := fun _ => fuel) (fun rec' x => by obtain ⟨⟨sizes, t2, t5, t6, t7, ⟨⟩⟩, ⟨⟨⟩⟩⟩ := x; exact rd_L_i_areSizes_1 rec' sizes t2 t5 t6 t7) fun _ => rfl, trivial⟩
theorem ev_i_areSizes (sizes : (List Int)) : evalF E_i_areSizes (lookL ll_i_areSizes) Try.f84 [.ro false (.slice (.int .i64))] (.one false .bool) (sizes, ()) = g_i_areSizes sizes := by kernel_rfl
def m_i_areSizes : FM := { ps := [.ro false (.slice (.int .i64))], res := .one false .bool, run := fun x => g_i_areSizes x.1 }
set_option maxRecDepth 4000 in
theorem ok_i_areSizes : FmOK Try.prog 84 m_i_areSizes := @FmOK.made Try.prog E_i_areSizes ek_i_areSizes 84 Try.f84 (lookL ll_i_areSizes) m_i_areSizes Try.func84 (by kernel_rfl) lo_i_areSizes fun ds out _ hr => by obtain ⟨sizes, ⟨⟩⟩ := ds; exact (ev_i_areSizes sizes).trans hr

def E_i_BytesOfWords : Tabs := (mkE tab [(84, m_i_areSizes)] [])
set_option maxRecDepth 4000 in
theorem ek_i_BytesOfWords : EnvOK Try.prog E_i_BytesOfWords := (mkE_ok tab_ok mixed (AllF.cons ok_i_areSizes AllF.nil) AllX.nil)
def lm_L_i_BytesOfWords_2 : LM := { mat := [], head := { slots := [(1, .dat false (.slice (.int .i64))), (4, .dat false .str), (5, .dat false .bool), (6, .cst (.sl (.row 0))), (7, .dat false (.int .i64)), (9, .dat false (.int .i64)), (10, .dat false (.int .i64)), (21, .dat false (.slice (.int .i64))), (22, .dat false (.int .i64)), (23, .dat false (.int .i64)), (31, .dat false (.int .i64)), (32, .dat false (.slice (.int .i64))), (33, .dat false (.int .i64)), (34, .dat false (.ref (.int .i64))), (35, .dat false (.int .i64)), (36, .dat false (.int .i64)), (37, .dat false .bool)], blks := [.row false (.int .u8)] }, out := { slots := [(1, .dat false (.slice (.int .i64))), (4, .dat false .str), (5, .dat false .bool), (6, .cst (.sl (.row 0))), (7, .dat false (.int .i64)), (21, .dat false (.slice (.int .i64))), (22, .dat false (.int .i64)), (23, .dat false (.int .i64)), (31, .dat false (.int .i64)), (32, .dat false (.slice (.int .i64))), (33, .dat false (.int .i64)), (34, .dat false (.ref (.int .i64))), (35, .dat false (.int .i64)), (36, .dat false (.int .i64)), (37, .dat false .bool)], blks := [.row false (.int .u8)] }, ex := 2, rets := false, run := iter L_i_BytesOfWords_2 fuel }
def lm_L_i_BytesOfWords_1 : LM := { mat := [.slot 6 (.int .u8)], head := { slots := [(1, .dat false (.slice (.int .i64))), (4, .dat false .str), (5, .dat false .bool), (6, .cst (.sl (.row 0))), (7, .dat false (.int .i64)), (21, .dat false (.slice (.int .i64))), (22, .dat false (.int .i64)), (23, .dat false (.int .i64))], blks := [.row false (.int .u8)] }, out := { slots := [(4, .dat false .str), (5, .dat false .bool), (6, .cst (.sl (.row 0)))], blks := [.row false (.int .u8)] }, ex := 0, rets := true, run := iter L_i_BytesOfWords_1 fuel }
def ll_i_BytesOfWords : List (Nat × LP) := [(6, .lm lm_L_i_BytesOfWords_1), (11, .lm lm_L_i_BytesOfWords_2)]
theorem rd_L_i_BytesOfWords_2 (rec' : ((List Int) × ByteArray × Bool × Int × Int × Int × (List Int) × Int × Int × Int × (List Int) × Int × Int × Int × Int × Bool × Unit) × ((List Int) × Unit) → Option (((List Int) × ByteArray × Bool × Int × (List Int) × Int × Int × Int × (List Int) × Int × Int × Int × Int × Bool × Unit) × ((List Int) × Unit))) (sizes : (List Int)) (t4 : ByteArray) (t5 : Bool) (bits : Int) (w : Int) (b : Int) (t21 : (List Int)) (t22 : Int) (t23 : Int) (t31 : Int) (t32 : (List Int)) (t33 : Int) (t34 : Int) (t35 : Int) (t36 : Int) (t37 : Bool) (r0 : (List Int)) : round E_i_BytesOfWords (lookL ll_i_BytesOfWords) lm_L_i_BytesOfWords_2 75 (loopAt Try.f85 1) rec' ((sizes, t4, t5, bits, w, b, t21, t22, t23, t31, t32, t33, t34, t35, t36, t37, ()), (r0, ())) = L_i_BytesOfWords_2 rec' ((sizes, t4, t5, bits, w, b, t21, t22, t23, t31, t32, t33, t34, t35, t36, t37, ()), (r0, ())) := by kernel_rfl
theorem rd_L_i_BytesOfWords_1 (rec' : ((List Int) × ByteArray × Bool × Int × (List Int) × Int × Int × Unit) × ((List Int) × Unit) → Option (Bool × ((ByteArray × Bool × Unit) × ((List Int) × Unit)))) (sizes : (List Int)) (t4 : ByteArray) (t5 : Bool) (bits : Int) (t21 : (List Int)) (t22 : Int) (t23 : Int) (r0 : (List Int)) : round E_i_BytesOfWords (lookL ll_i_BytesOfWords) lm_L_i_BytesOfWords_1 75 (loopAt Try.f85 0) rec' ((sizes, t4, t5, bits, t21, t22, t23, ()), (r0, ())) = L_i_BytesOfWords_1 rec' ((sizes, t4, t5, bits, t21, t22, t23, ()), (r0, ())) := by kernel_rfl
theorem lo_i_BytesOfWords : Loops E_i_BytesOfWords (lookL ll_i_BytesOfWords) Try.f85 := Loops.list (by kernel_rfl) (by kernel_rfl) ⟨LoopOK.iter (step := L_i_BytesOfWords_1) (N := fun _ => fuel) (fun rec' x => by obtain ⟨⟨sizes, t4, t5, bits, t21, t22, t23, ⟨⟩⟩, ⟨r0, ⟨⟩⟩⟩ := x; exact rd_L_i_BytesOfWords_1 rec' sizes t4 t5 bits t21 t22 t23 r0) fun _ => rfl, LoopOK.iter (step := L_i_BytesOfWords_2) (N := fun _ => fuel) (fun rec' x => by obtain ⟨⟨sizes, t4, t5, bits, w, b, t21, t22, t23, t31, t32, t33, t34, t35, t36, t37, ⟨⟩⟩, ⟨r0, ⟨⟩⟩⟩ := x; exact rd_L_i_BytesOfWords_2 rec' sizes t4 t5 bits w b t21 t22 t23 t31 t32 t33 t34 t35 t36 t37 r0) fun _ => rfl, trivial⟩
theorem ev_i_BytesOfWords (words : (List Int)) (sizes : (List Int)) : evalF E_i_BytesOfWords (lookL ll_i_BytesOfWords) Try.f85 [.ro false (.slice (.int .i64)), .ro false (.slice (.int .i64))] (.tup [(false, .str), (false, .bool)]) (words, sizes, ()) = g_i_BytesOfWords words sizes := by kernel_rfl
def m_i_BytesOfWords : FM := { ps := [.ro false (.slice (.int .i64)), .ro false (.slice (.int .i64))], res := .tup [(false, .str), (false, .bool)], run := fun x => g_i_BytesOfWords x.1 x.2.1 }
set_option maxRecDepth 4000 in
theorem ok_i_BytesOfWords : FmOK Try.prog 85 m_i_BytesOfWords := @FmOK.made Try.prog E_i_BytesOfWords ek_i_BytesOfWords 85 Try.f85 (lookL ll_i_BytesOfWords) m_i_BytesOfWords Try.func85 (by kernel_rfl) lo_i_BytesOfWords fun ds out _ hr => by obtain ⟨words, sizes, ⟨⟩⟩ := ds; exact (ev_i_BytesOfWords words sizes).trans hr

def E_i_WordsOfBytes : Tabs := (mkE tab [(84, m_i_areSizes), (85, m_i_BytesOfWords)] [])
set_option maxRecDepth 4000 in
theorem ek_i_WordsOfBytes : EnvOK Try.prog E_i_WordsOfBytes := (mkE_ok tab_ok mixed (AllF.cons ok_i_areSizes (AllF.cons ok_i_BytesOfWords AllF.nil)) AllX.nil)
def lm_L_i_WordsOfBytes_3 : LM := { mat := [], head := { slots := [(0, .dat false .str), (1, .dat false (.slice (.int .i64))), (9, .cst (.sl (.row 0))), (10, .dat false (.int .i64)), (11, .dat false (.int .i64)), (37, .dat false (.slice (.int .i64))), (38, .dat false (.int .i64)), (39, .dat false (.int .i64)), (44, .dat false (.int .i64)), (45, .dat false (.int .i64))], blks := [.row false (.int .i64)] }, out := { slots := [(0, .dat false .str), (1, .dat false (.slice (.int .i64))), (9, .cst (.sl (.row 0))), (10, .dat false (.int .i64)), (37, .dat false (.slice (.int .i64))), (38, .dat false (.int .i64)), (39, .dat false (.int .i64))], blks := [.row false (.int .i64)] }, ex := 4, rets := false, run := iter L_i_WordsOfBytes_3 fuel }
def lm_L_i_WordsOfBytes_2 : LM := { mat := [], head := { slots := [(0, .dat false .str), (1, .dat false (.slice (.int .i64))), (9, .cst (.sl (.row 0))), (10, .dat false (.int .i64)), (37, .dat false (.slice (.int .i64))), (38, .dat false (.int .i64)), (39, .dat false (.int .i64))], blks := [.row false (.int .i64)] }, out := { slots := [(0, .dat false .str), (1, .dat false (.slice (.int .i64))), (9, .cst (.sl (.row 0)))], blks := [.row false (.int .i64)] }, ex := 2, rets := false, run := iter L_i_WordsOfBytes_2 fuel }
def lm_L_i_WordsOfBytes_1 : LM := { mat := [], head := { slots := [(0, .dat false .str), (1, .dat false (.slice (.int .i64))), (6, .dat false (.int .i64)), (18, .dat false (.slice (.int .i64))), (19, .dat false (.int .i64)), (20, .dat false (.int .i64))], blks := [] }, out := { slots := [(0, .dat false .str), (1, .dat false (.slice (.int .i64))), (6, .dat false (.int .i64))], blks := [] }, ex := 0, rets := false, run := iter L_i_WordsOfBytes_1 fuel }
def ll_i_WordsOfBytes : List (Nat × LP) := [(5, .lm lm_L_i_WordsOfBytes_1), (14, .lm lm_L_i_WordsOfBytes_2), (17, .lm lm_L_i_WordsOfBytes_3)]
theorem rd_L_i_WordsOfBytes_3 (rec' : (ByteArray × (List Int) × Int × Int × (List Int) × Int × Int × Int × Int × Unit) × ((List Int) × Unit) → Option ((ByteArray × (List Int) × Int × (List Int) × Int × Int × Unit) × ((List Int) × Unit))) (s : ByteArray) (sizes : (List Int)) (atx : Int) (i : Int) (t37 : (List Int)) (t38 : Int) (t39 : Int) (t44 : Int) (t45 : Int) (r0 : (List Int)) : round E_i_WordsOfBytes (lookL ll_i_WordsOfBytes) lm_L_i_WordsOfBytes_3 84 (loopAt Try.f56 2) rec' ((s, sizes, atx, i, t37, t38, t39, t44, t45, ()), (r0, ())) = L_i_WordsOfBytes_3 rec' ((s, sizes, atx, i, t37, t38, t39, t44, t45, ()), (r0, ())) := by kernel_rfl
theorem rd_L_i_WordsOfBytes_2 (rec' : (ByteArray × (List Int) × Int × (List Int) × Int × Int × Unit) × ((List Int) × Unit) → Option ((ByteArray × (List Int) × Unit) × ((List Int) × Unit))) (s : ByteArray) (sizes : (List Int)) (atx : Int) (t37 : (List Int)) (t38 : Int) (t39 : Int) (r0 : (List Int)) : round E_i_WordsOfBytes (lookL ll_i_WordsOfBytes) lm_L_i_WordsOfBytes_2 84 (loopAt Try.f56 1) rec' ((s, sizes, atx, t37, t38, t39, ()), (r0, ())) = L_i_WordsOfBytes_2 rec' ((s, sizes, atx, t37, t38, t39, ()), (r0, ())) := by kernel_rfl
theorem rd_L_i_WordsOfBytes_1 (rec' : (ByteArray × (List Int) × Int × (List Int) × Int × Int × Unit) × (Unit) → Option ((ByteArray × (List Int) × Int × Unit) × (Unit))) (s : ByteArray) (sizes : (List Int)) (all : Int) (t18 : (List Int)) (t19 : Int) (t20 : Int) : round E_i_WordsOfBytes (lookL ll_i_WordsOfBytes) lm_L_i_WordsOfBytes_1 84 (loopAt Try.f56 0) rec' ((s, sizes, all, t18, t19, t20, ()), (())) = L_i_WordsOfBytes_1 rec' ((s, sizes, all, t18, t19, t20, ()), (())) := by kernel_rfl
theorem lo_i_WordsOfBytes : Loops E_i_WordsOfBytes (lookL ll_i_WordsOfBytes) Try.f56 := Loops.list (by kernel_rfl) (by kernel_rfl) ⟨LoopOK.iter (step := L_i_WordsOfBytes_1) (N := fun _ => fuel) (fun rec' x => by obtain ⟨⟨s, sizes, all, t18, t19, t20, ⟨⟩⟩, ⟨⟨⟩⟩⟩ := x; exact rd_L_i_WordsOfBytes_1 rec' s sizes all t18 t19 t20) fun _ => rfl, LoopOK.iter (step := L_i_WordsOfBytes_2) (N := fun _ => fuel) (fun rec' x => by obtain ⟨⟨s, sizes, atx, t37, t38, t39, ⟨⟩⟩, ⟨r0, ⟨⟩⟩⟩ := x; exact rd_L_i_WordsOfBytes_2 rec' s sizes atx t37 t38 t39 r0) fun _ => rfl, LoopOK.iter (step := L_i_WordsOfBytes_3) (N := fun _ => fuel) (fun rec' x => by obtain ⟨⟨s, sizes, atx, i, t37, t38, t39, t44, t45, ⟨⟩⟩, ⟨r0, ⟨⟩⟩⟩ := x; exact rd_L_i_WordsOfBytes_3 rec' s sizes atx i t37 t38 t39 t44 t45 r0) fun _ => rfl, trivial⟩
theorem ev_i_WordsOfBytes (s : ByteArray) (sizes : (List Int)) : evalF E_i_WordsOfBytes (lookL ll_i_WordsOfBytes) Try.f56 [.ro false .str, .ro false (.slice (.int .i64))] (.tup [(false, (.slice (.int .i64))), (false, .bool)]) (s, sizes, ()) = g_i_WordsOfBytes s sizes := by kernel_rfl
def m_i_WordsOfBytes : FM := { ps := [.ro false .str, .ro false (.slice (.int .i64))], res := .tup [(false, (.slice (.int .i64))), (false, .bool)], run := fun x => g_i_WordsOfBytes x.1 x.2.1 }
set_option maxRecDepth 4000 in
theorem ok_i_WordsOfBytes : FmOK Try.prog 56 m_i_WordsOfBytes := @FmOK.made Try.prog E_i_WordsOfBytes ek_i_WordsOfBytes 56 Try.f56 (lookL ll_i_WordsOfBytes) m_i_WordsOfBytes Try.func56 (by kernel_rfl) lo_i_WordsOfBytes fun ds out _ hr => by obtain ⟨s, sizes, ⟨⟩⟩ := ds; exact (ev_i_WordsOfBytes s sizes).trans hr

def E_i_codes : Tabs := (mkE tab [] [])
set_option maxRecDepth 4000 in
theorem ek_i_codes : EnvOK Try.prog E_i_codes := (mkE_ok tab_ok mixed AllF.nil AllX.nil)
theorem ev_i_codes (bits : Int) : evalF E_i_codes noL Try.f86 [.ro false (.int .i64)] (.one false (.int .i64)) (bits, ()) = g_i_codes bits := by kernel_rfl
def m_i_codes : FM := { ps := [.ro false (.int .i64)], res := .one false (.int .i64), run := fun x => g_i_codes x.1 }
set_option maxRecDepth 4000 in
theorem ok_i_codes : FmOK Try.prog 86 m_i_codes := @FmOK.made Try.prog E_i_codes ek_i_codes 86 Try.f86 noL m_i_codes Try.func86 (by kernel_rfl) (Loops.none (by kernel_rfl)) fun ds out _ hr => by obtain ⟨bits, ⟨⟩⟩ := ds; exact (ev_i_codes bits).trans hr

def E_i_parts : Tabs := (mkE tab [(86, m_i_codes)] [])
set_option maxRecDepth 4000 in
theorem ek_i_parts : EnvOK Try.prog E_i_parts := (mkE_ok tab_ok mixed (AllF.cons ok_i_codes AllF.nil) AllX.nil)
def ll_i_parts : List (Nat × LP) := [(3, .unroll 4)]
theorem lo_i_parts : Loops E_i_parts (lookL ll_i_parts) Try.f87 := Loops.list (by kernel_rfl) (by kernel_rfl) trivial
theorem ev_i_parts (word : Int) (bits : Int) : evalF E_i_parts (lookL ll_i_parts) Try.f87 [.ro false (.int .i64), .ro false (.int .i64)] (.tup [(false, (.int .i64)), (true, (.pair (.int .i64) (.pair (.int .i64) (.pair (.int .i64) .unit))))]) (word, bits, ()) = g_i_parts word bits := by kernel_rfl
def m_i_parts : FM := { ps := [.ro false (.int .i64), .ro false (.int .i64)], res := .tup [(false, (.int .i64)), (true, (.pair (.int .i64) (.pair (.int .i64) (.pair (.int .i64) .unit))))], run := fun x => g_i_parts x.1 x.2.1 }
set_option maxRecDepth 4000 in
theorem ok_i_parts : FmOK Try.prog 87 m_i_parts := @FmOK.made Try.prog E_i_parts ek_i_parts 87 Try.f87 (lookL ll_i_parts) m_i_parts Try.func87 (by kernel_rfl) lo_i_parts fun ds out _ hr => by obtain ⟨word, bits, ⟨⟩⟩ := ds; exact (ev_i_parts word bits).trans hr

def E_i_numberOf : Tabs := (mkE tab [(86, m_i_codes)] [])
set_option maxRecDepth 4000 in
theorem ek_i_numberOf : EnvOK Try.prog E_i_numberOf := (mkE_ok tab_ok mixed (AllF.cons ok_i_codes AllF.nil) AllX.nil)
theorem ev_i_numberOf (code : Int) (low : Nat) (high : Nat) (bits : Int) : evalF E_i_numberOf noL Try.f88 [.ro false (.int .i64), .ro false (.flt .f32), .ro false (.flt .f32), .ro false (.int .i64)] (.one false (.flt .f32)) (code, low, high, bits, ()) = g_i_numberOf code low high bits := by kernel_rfl
def m_i_numberOf : FM := { ps := [.ro false (.int .i64), .ro false (.flt .f32), .ro false (.flt .f32), .ro false (.int .i64)], res := .one false (.flt .f32), run := fun x => g_i_numberOf x.1 x.2.1 x.2.2.1 x.2.2.2.1 }
set_option maxRecDepth 4000 in
theorem ok_i_numberOf : FmOK Try.prog 88 m_i_numberOf := @FmOK.made Try.prog E_i_numberOf ek_i_numberOf 88 Try.f88 noL m_i_numberOf Try.func88 (by kernel_rfl) (Loops.none (by kernel_rfl)) fun ds out _ hr => by obtain ⟨code, low, high, bits, ⟨⟩⟩ := ds; exact (ev_i_numberOf code low high bits).trans hr

def E_i_UnpackVector : Tabs := (mkE tab [(83, m_i_isPositive), (82, m_i_areBits), (86, m_i_codes), (87, m_i_parts), (88, m_i_numberOf)] [])
set_option maxRecDepth 4000 in
theorem ek_i_UnpackVector : EnvOK Try.prog E_i_UnpackVector := (mkE_ok tab_ok mixed (AllF.cons ok_i_isPositive (AllF.cons ok_i_areBits (AllF.cons ok_i_codes (AllF.cons ok_i_parts (AllF.cons ok_i_numberOf AllF.nil))))) AllX.nil)
theorem ev_i_UnpackVector (word : Int) (reach : Nat) (bits : Int) : evalF E_i_UnpackVector noL Try.f58 [.ro false (.int .i64), .ro false (.flt .f32), .ro false (.int .i64)] (.tup [(true, tVec), (false, .bool)]) (word, reach, bits, ()) = g_i_UnpackVector word reach bits := by kernel_rfl
def m_i_UnpackVector : FM := { ps := [.ro false (.int .i64), .ro false (.flt .f32), .ro false (.int .i64)], res := .tup [(true, tVec), (false, .bool)], run := fun x => g_i_UnpackVector x.1 x.2.1 x.2.2.1 }
set_option maxRecDepth 4000 in
theorem ok_i_UnpackVector : FmOK Try.prog 58 m_i_UnpackVector := @FmOK.made Try.prog E_i_UnpackVector ek_i_UnpackVector 58 Try.f58 noL m_i_UnpackVector Try.func58 (by kernel_rfl) (Loops.none (by kernel_rfl)) fun ds out _ hr => by obtain ⟨word, reach, bits, ⟨⟩⟩ := ds; exact (ev_i_UnpackVector word reach bits).trans hr

def E_i_RootNumber : Tabs := (mkE tab [(105, m_math_Sqrt)] [])
set_option maxRecDepth 4000 in
theorem ek_i_RootNumber : EnvOK Try.prog E_i_RootNumber := (mkE_ok tab_ok mixed (AllF.cons ok_math_Sqrt AllF.nil) AllX.nil)
theorem ev_i_RootNumber (xx : Nat) : evalF E_i_RootNumber noL Try.f89 [.ro false (.flt .f32)] (.one false (.flt .f32)) (xx, ()) = g_i_RootNumber xx := by kernel_rfl
def m_i_RootNumber : FM := { ps := [.ro false (.flt .f32)], res := .one false (.flt .f32), run := fun x => g_i_RootNumber x.1 }
set_option maxRecDepth 4000 in
theorem ok_i_RootNumber : FmOK Try.prog 89 m_i_RootNumber := @FmOK.made Try.prog E_i_RootNumber ek_i_RootNumber 89 Try.f89 noL m_i_RootNumber Try.func89 (by kernel_rfl) (Loops.none (by kernel_rfl)) fun ds out _ hr => by obtain ⟨xx, ⟨⟩⟩ := ds; exact (ev_i_RootNumber xx).trans hr

def E_i_InnerOfTurns : Tabs := (mkE tab [] [])
set_option maxRecDepth 4000 in
theorem ek_i_InnerOfTurns : EnvOK Try.prog E_i_InnerOfTurns := (mkE_ok tab_ok mixed AllF.nil AllX.nil)
theorem ev_i_InnerOfTurns (a : dTurn) (b : dTurn) : evalF E_i_InnerOfTurns noL Try.f119 [.ro true tTurn, .ro true tTurn] (.one false (.flt .f32)) (a, b, ()) = g_i_InnerOfTurns a b := by kernel_rfl
def m_i_InnerOfTurns : FM := { ps := [.ro true tTurn, .ro true tTurn], res := .one false (.flt .f32), run := fun x => some (t_i_InnerOfTurns x.1 x.2.1) }
set_option maxRecDepth 4000 in
theorem ok_i_InnerOfTurns : FmOK Try.prog 119 m_i_InnerOfTurns := @FmOK.made Try.prog E_i_InnerOfTurns ek_i_InnerOfTurns 119 Try.f119 noL m_i_InnerOfTurns Try.func119 (by kernel_rfl) (Loops.none (by kernel_rfl)) fun ds out _ hr => by obtain ⟨a, b, ⟨⟩⟩ := ds; exact (ev_i_InnerOfTurns a b).trans ((q_i_InnerOfTurns a b).trans hr)

def E_i_LengthOfTurn : Tabs := (mkE tab [(119, m_i_InnerOfTurns), (89, m_i_RootNumber)] [])
set_option maxRecDepth 4000 in
theorem ek_i_LengthOfTurn : EnvOK Try.prog E_i_LengthOfTurn := (mkE_ok tab_ok mixed (AllF.cons ok_i_InnerOfTurns (AllF.cons ok_i_RootNumber AllF.nil)) AllX.nil)
theorem ev_i_LengthOfTurn (t : dTurn) : evalF E_i_LengthOfTurn noL Try.f109 [.ro true tTurn] (.one false (.flt .f32)) (t, ()) = g_i_LengthOfTurn t := by kernel_rfl
def m_i_LengthOfTurn : FM := { ps := [.ro true tTurn], res := .one false (.flt .f32), run := fun x => g_i_LengthOfTurn x.1 }
set_option maxRecDepth 4000 in
theorem ok_i_LengthOfTurn : FmOK Try.prog 109 m_i_LengthOfTurn := @FmOK.made Try.prog E_i_LengthOfTurn ek_i_LengthOfTurn 109 Try.f109 noL m_i_LengthOfTurn Try.func109 (by kernel_rfl) (Loops.none (by kernel_rfl)) fun ds out _ hr => by obtain ⟨t, ⟨⟩⟩ := ds; exact (ev_i_LengthOfTurn t).trans hr

def E_i_isLength : Tabs := (mkE tab [(108, m_i_IsFinite)] [])
set_option maxRecDepth 4000 in
theorem ek_i_isLength : EnvOK Try.prog E_i_isLength := (mkE_ok tab_ok mixed (AllF.cons ok_i_IsFinite AllF.nil) AllX.nil)
theorem ev_i_isLength (n : Nat) : evalF E_i_isLength noL Try.f110 [.ro false (.flt .f32)] (.one false .bool) (n, ()) = g_i_isLength n := by kernel_rfl
def m_i_isLength : FM := { ps := [.ro false (.flt .f32)], res := .one false .bool, run := fun x => some (t_i_isLength x.1) }
set_option maxRecDepth 4000 in
theorem ok_i_isLength : FmOK Try.prog 110 m_i_isLength := @FmOK.made Try.prog E_i_isLength ek_i_isLength 110 Try.f110 noL m_i_isLength Try.func110 (by kernel_rfl) (Loops.none (by kernel_rfl)) fun ds out _ hr => by obtain ⟨n, ⟨⟩⟩ := ds; exact (ev_i_isLength n).trans ((q_i_isLength n).trans hr)

def E_i_NoTurn : Tabs := (mkE tab [] [])
set_option maxRecDepth 4000 in
theorem ek_i_NoTurn : EnvOK Try.prog E_i_NoTurn := (mkE_ok tab_ok mixed AllF.nil AllX.nil)
theorem ev_i_NoTurn  : evalF E_i_NoTurn noL Try.f111 [] (.one true tTurn) (()) = g_i_NoTurn  := by kernel_rfl
def m_i_NoTurn : FM := { ps := [], res := .one true tTurn, run := fun x => some (t_i_NoTurn ) }
set_option maxRecDepth 4000 in
theorem ok_i_NoTurn : FmOK Try.prog 111 m_i_NoTurn := @FmOK.made Try.prog E_i_NoTurn ek_i_NoTurn 111 Try.f111 noL m_i_NoTurn Try.func111 (by kernel_rfl) (Loops.none (by kernel_rfl)) fun ds out _ hr => by obtain ⟨⟨⟩⟩ := ds; exact (ev_i_NoTurn ).trans ((q_i_NoTurn ).trans hr)

def E_i_MendTurn : Tabs := (mkE tab [(109, m_i_LengthOfTurn), (110, m_i_isLength), (111, m_i_NoTurn)] [])
set_option maxRecDepth 4000 in
theorem ek_i_MendTurn : EnvOK Try.prog E_i_MendTurn := (mkE_ok tab_ok mixed (AllF.cons ok_i_LengthOfTurn (AllF.cons ok_i_isLength (AllF.cons ok_i_NoTurn AllF.nil))) AllX.nil)
theorem ev_i_MendTurn (t : dTurn) : evalF E_i_MendTurn noL Try.f90 [.ro true tTurn] (.one true tTurn) (t, ()) = g_i_MendTurn t := by kernel_rfl
def m_i_MendTurn : FM := { ps := [.ro true tTurn], res := .one true tTurn, run := fun x => g_i_MendTurn x.1 }
set_option maxRecDepth 4000 in
theorem ok_i_MendTurn : FmOK Try.prog 90 m_i_MendTurn := @FmOK.made Try.prog E_i_MendTurn ek_i_MendTurn 90 Try.f90 noL m_i_MendTurn Try.func90 (by kernel_rfl) (Loops.none (by kernel_rfl)) fun ds out _ hr => by obtain ⟨t, ⟨⟩⟩ := ds; exact (ev_i_MendTurn t).trans hr

def E_i_UnpackTurn : Tabs := (mkE tab [(82, m_i_areBits), (86, m_i_codes), (87, m_i_parts), (89, m_i_RootNumber), (90, m_i_MendTurn), (88, m_i_numberOf)] [])
set_option maxRecDepth 4000 in
theorem ek_i_UnpackTurn : EnvOK Try.prog E_i_UnpackTurn := (mkE_ok tab_ok mixed (AllF.cons ok_i_areBits (AllF.cons ok_i_codes (AllF.cons ok_i_parts (AllF.cons ok_i_RootNumber (AllF.cons ok_i_MendTurn (AllF.cons ok_i_numberOf AllF.nil)))))) AllX.nil)
def ll_i_UnpackTurn : List (Nat × LP) := [(8, .unroll 5)]
theorem lo_i_UnpackTurn : Loops E_i_UnpackTurn (lookL ll_i_UnpackTurn) Try.f59 := Loops.list (by kernel_rfl) (by kernel_rfl) trivial
theorem ev_i_UnpackTurn (word : Int) (bits : Int) : evalF E_i_UnpackTurn (lookL ll_i_UnpackTurn) Try.f59 [.ro false (.int .i64), .ro false (.int .i64)] (.tup [(true, tTurn), (false, .bool)]) (word, bits, ()) = g_i_UnpackTurn word bits := by kernel_rfl
def m_i_UnpackTurn : FM := { ps := [.ro false (.int .i64), .ro false (.int .i64)], res := .tup [(true, tTurn), (false, .bool)], run := fun x => g_i_UnpackTurn x.1 x.2.1 }
set_option maxRecDepth 4000 in
theorem ok_i_UnpackTurn : FmOK Try.prog 59 m_i_UnpackTurn := @FmOK.made Try.prog E_i_UnpackTurn ek_i_UnpackTurn 59 Try.f59 (lookL ll_i_UnpackTurn) m_i_UnpackTurn Try.func59 (by kernel_rfl) lo_i_UnpackTurn fun ds out _ hr => by obtain ⟨word, bits, ⟨⟩⟩ := ds; exact (ev_i_UnpackTurn word bits).trans hr

def E_i_UnpackPose : Tabs := (mkE tab [(54, m_i_ValidPacking), (55, m_i_isCount), (57, m_i_Packing_sizes), (56, m_i_WordsOfBytes), (58, m_i_UnpackVector), (59, m_i_UnpackTurn)] [])
set_option maxRecDepth 4000 in
theorem ek_i_UnpackPose : EnvOK Try.prog E_i_UnpackPose := (mkE_ok tab_ok mixed (AllF.cons ok_i_ValidPacking (AllF.cons ok_i_isCount (AllF.cons ok_i_Packing_sizes (AllF.cons ok_i_WordsOfBytes (AllF.cons ok_i_UnpackVector (AllF.cons ok_i_UnpackTurn AllF.nil)))))) AllX.nil)
def lm_L_i_UnpackPose_1 : LM := { mat := [.cell 4 3 tTurn], head := { slots := [(3, .cst (.ptr (.box 0 0))), (6, .cst (.ptr (.box 1 0))), (7, .dat false .bool), (10, .cst (.ptr (.box 4 0))), (51, .sub 3), (52, .dat false (.int .i64)), (53, .dat false (.int .i64))], blks := [.box [.dat tPacking], .box [.dat tVec, .cst (.sl .nil)], .dead, .row false (.int .i64), .box [.dat tVec, .cst (.sl (.row 5))], .row false tTurn] }, out := { slots := [(6, .cst (.ptr (.box 1 0))), (7, .dat false .bool), (10, .cst (.ptr (.box 4 0)))], blks := [.dead, .box [.dat tVec, .cst (.sl .nil)], .dead, .dead, .box [.dat tVec, .cst (.sl (.row 5))], .row false tTurn] }, ex := 0, rets := true, run := iter L_i_UnpackPose_1 fuel }
def ll_i_UnpackPose : List (Nat × LP) := [(11, .lm lm_L_i_UnpackPose_1)]
theorem rd_L_i_UnpackPose_1 (rec' : (Bool × (Nat × Nat) × Int × Int × Unit) × ((dPacking × Unit) × (dVec × Unit) × (List Int) × (dVec × Unit) × (List dTurn) × Unit) → Option (Bool × ((Bool × Unit) × ((dVec × Unit) × (dVec × Unit) × (List dTurn) × Unit)))) (t7 : Bool) (t51o : Nat) (t51l : Nat) (t52 : Int) (t53 : Int) (b0 : dPacking) (b1 : dVec) (r3 : (List Int)) (b4 : dVec) (r5 : (List dTurn)) : round E_i_UnpackPose (lookL ll_i_UnpackPose) lm_L_i_UnpackPose_1 75 (loopAt Try.f29 0) rec' ((t7, (t51o, t51l), t52, t53, ()), ((b0, ()), (b1, ()), r3, (b4, ()), r5, ())) = L_i_UnpackPose_1 rec' ((t7, (t51o, t51l), t52, t53, ()), ((b0, ()), (b1, ()), r3, (b4, ()), r5, ())) := by kernel_rfl
theorem lo_i_UnpackPose : Loops E_i_UnpackPose (lookL ll_i_UnpackPose) Try.f29 := Loops.list (by kernel_rfl) (by kernel_rfl) ⟨LoopOK.iter (step := L_i_UnpackPose_1) (N := fun _ => fuel) (fun rec' x => by obtain ⟨⟨t7, ⟨t51o, t51l⟩, t52, t53, ⟨⟩⟩, ⟨⟨b0, ⟨⟩⟩, ⟨b1, ⟨⟩⟩, r3, ⟨b4, ⟨⟩⟩, r5, ⟨⟩⟩⟩ := x; exact rd_L_i_UnpackPose_1 rec' t7 t51o t51l t52 t53 b0 b1 r3 b4 r5) fun _ => rfl, trivial⟩
theorem ev_i_UnpackPose (p : dPacking) (count : Int) (s : ByteArray) : evalF E_i_UnpackPose (lookL ll_i_UnpackPose) Try.f29 [.ro true tPacking, .ro false (.int .i64), .ro false .str] (.tup [(true, tPose), (false, .bool)]) (p, count, s, ()) = g_i_UnpackPose p count s := by kernel_rfl
def m_i_UnpackPose : FM := { ps := [.ro true tPacking, .ro false (.int .i64), .ro false .str], res := .tup [(true, tPose), (false, .bool)], run := fun x => g_i_UnpackPose x.1 x.2.1 x.2.2.1 }
set_option maxRecDepth 4000 in
theorem ok_i_UnpackPose : FmOK Try.prog 29 m_i_UnpackPose := @FmOK.made Try.prog E_i_UnpackPose ek_i_UnpackPose 29 Try.f29 (lookL ll_i_UnpackPose) m_i_UnpackPose Try.func29 (by kernel_rfl) lo_i_UnpackPose fun ds out _ hr => by obtain ⟨p, count, s, ⟨⟩⟩ := ds; exact (ev_i_UnpackPose p count s).trans hr

def E_i_UnpackPoses : Tabs := (mkE tab [(28, m_i_PackedSize), (29, m_i_UnpackPose)] [])
set_option maxRecDepth 4000 in
theorem ek_i_UnpackPoses : EnvOK Try.prog E_i_UnpackPoses := (mkE_ok tab_ok mixed (AllF.cons ok_i_PackedSize (AllF.cons ok_i_UnpackPose AllF.nil)) AllX.nil)
def lm_L_i_UnpackPoses_1 : LM := { mat := [.slot 10 tPose], head := { slots := [(1, .dat false (.int .i64)), (2, .dat false .str), (3, .cst (.ptr (.box 0 0))), (6, .cst (.sl .nil)), (7, .dat false .bool), (8, .dat false (.int .i64)), (10, .cst (.sl (.row 1))), (11, .dat false (.int .i64))], blks := [.box [.dat tPacking], .row false tPose] }, out := { slots := [(6, .cst (.sl .nil)), (7, .dat false .bool), (10, .cst (.sl (.row 1)))], blks := [.dead, .row false tPose] }, ex := 0, rets := true, run := iter L_i_UnpackPoses_1 fuel }
def ll_i_UnpackPoses : List (Nat × LP) := [(6, .lm lm_L_i_UnpackPoses_1)]
theorem rd_L_i_UnpackPoses_1 (rec' : (Int × ByteArray × Bool × Int × Int × Unit) × ((dPacking × Unit) × (List dPose) × Unit) → Option (Bool × ((Bool × Unit) × ((List dPose) × Unit)))) (count : Int) (s : ByteArray) (t7 : Bool) (n : Int) (atx : Int) (b0 : dPacking) (r1 : (List dPose)) : round E_i_UnpackPoses (lookL ll_i_UnpackPoses) lm_L_i_UnpackPoses_1 60 (loopAt Try.f7 0) rec' ((count, s, t7, n, atx, ()), ((b0, ()), r1, ())) = L_i_UnpackPoses_1 rec' ((count, s, t7, n, atx, ()), ((b0, ()), r1, ())) := by kernel_rfl
theorem lo_i_UnpackPoses : Loops E_i_UnpackPoses (lookL ll_i_UnpackPoses) Try.f7 := Loops.list (by kernel_rfl) (by kernel_rfl) ⟨LoopOK.iter (step := L_i_UnpackPoses_1) (N := fun _ => fuel) (fun rec' x => by obtain ⟨⟨count, s, t7, n, atx, ⟨⟩⟩, ⟨⟨b0, ⟨⟩⟩, r1, ⟨⟩⟩⟩ := x; exact rd_L_i_UnpackPoses_1 rec' count s t7 n atx b0 r1) fun _ => rfl, trivial⟩
theorem ev_i_UnpackPoses (p : dPacking) (count : Int) (s : ByteArray) : evalF E_i_UnpackPoses (lookL ll_i_UnpackPoses) Try.f7 [.ro true tPacking, .ro false (.int .i64), .ro false .str] (.tup [(false, (.slice tPose)), (false, .bool)]) (p, count, s, ()) = g_i_UnpackPoses p count s := by kernel_rfl
def m_i_UnpackPoses : FM := { ps := [.ro true tPacking, .ro false (.int .i64), .ro false .str], res := .tup [(false, (.slice tPose)), (false, .bool)], run := fun x => g_i_UnpackPoses x.1 x.2.1 x.2.2.1 }
set_option maxRecDepth 4000 in
theorem ok_i_UnpackPoses : FmOK Try.prog 7 m_i_UnpackPoses := @FmOK.made Try.prog E_i_UnpackPoses ek_i_UnpackPoses 7 Try.f7 (lookL ll_i_UnpackPoses) m_i_UnpackPoses Try.func7 (by kernel_rfl) lo_i_UnpackPoses fun ds out _ hr => by obtain ⟨p, count, s, ⟨⟩⟩ := ds; exact (ev_i_UnpackPoses p count s).trans hr

def E_w_sameFloat : Tabs := (mkE tab [] [])
set_option maxRecDepth 4000 in
theorem ek_w_sameFloat : EnvOK Try.prog E_w_sameFloat := (mkE_ok tab_ok mixed AllF.nil AllX.nil)
theorem ev_w_sameFloat (a : Nat) (b : Nat) : evalF E_w_sameFloat noL Try.f91 [.ro false (.flt .f64), .ro false (.flt .f64)] (.one false .bool) (a, b, ()) = g_w_sameFloat a b := by kernel_rfl
def m_w_sameFloat : FM := { ps := [.ro false (.flt .f64), .ro false (.flt .f64)], res := .one false .bool, run := fun x => some (t_w_sameFloat x.1 x.2.1) }
set_option maxRecDepth 4000 in
theorem ok_w_sameFloat : FmOK Try.prog 91 m_w_sameFloat := @FmOK.made Try.prog E_w_sameFloat ek_w_sameFloat 91 Try.f91 noL m_w_sameFloat Try.func91 (by kernel_rfl) (Loops.none (by kernel_rfl)) fun ds out _ hr => by obtain ⟨a, b, ⟨⟩⟩ := ds; exact (ev_w_sameFloat a b).trans ((q_w_sameFloat a b).trans hr)

def E_w_eqVector : Tabs := (mkE tab [(91, m_w_sameFloat)] [])
set_option maxRecDepth 4000 in
theorem ek_w_eqVector : EnvOK Try.prog E_w_eqVector := (mkE_ok tab_ok mixed (AllF.cons ok_w_sameFloat AllF.nil) AllX.nil)
theorem ev_w_eqVector (a : dVec) (b : dVec) : evalF E_w_eqVector noL Try.f60 [.ro true tVec, .ro true tVec] (.one false .bool) (a, b, ()) = g_w_eqVector a b := by kernel_rfl
def m_w_eqVector : FM := { ps := [.ro true tVec, .ro true tVec], res := .one false .bool, run := fun x => some (t_w_eqVector x.1 x.2.1) }
set_option maxRecDepth 4000 in
theorem ok_w_eqVector : FmOK Try.prog 60 m_w_eqVector := @FmOK.made Try.prog E_w_eqVector ek_w_eqVector 60 Try.f60 noL m_w_eqVector Try.func60 (by kernel_rfl) (Loops.none (by kernel_rfl)) fun ds out _ hr => by obtain ⟨a, b, ⟨⟩⟩ := ds; exact (ev_w_eqVector a b).trans ((q_w_eqVector a b).trans hr)

def E_w_eqTurn : Tabs := (mkE tab [(91, m_w_sameFloat)] [])
set_option maxRecDepth 4000 in
theorem ek_w_eqTurn : EnvOK Try.prog E_w_eqTurn := (mkE_ok tab_ok mixed (AllF.cons ok_w_sameFloat AllF.nil) AllX.nil)
theorem ev_w_eqTurn (a : dTurn) (b : dTurn) : evalF E_w_eqTurn noL Try.f92 [.ro true tTurn, .ro true tTurn] (.one false .bool) (a, b, ()) = g_w_eqTurn a b := by kernel_rfl
def m_w_eqTurn : FM := { ps := [.ro true tTurn, .ro true tTurn], res := .one false .bool, run := fun x => some (t_w_eqTurn x.1 x.2.1) }
set_option maxRecDepth 4000 in
theorem ok_w_eqTurn : FmOK Try.prog 92 m_w_eqTurn := @FmOK.made Try.prog E_w_eqTurn ek_w_eqTurn 92 Try.f92 noL m_w_eqTurn Try.func92 (by kernel_rfl) (Loops.none (by kernel_rfl)) fun ds out _ hr => by obtain ⟨a, b, ⟨⟩⟩ := ds; exact (ev_w_eqTurn a b).trans ((q_w_eqTurn a b).trans hr)

def E_w_eqTurnS : Tabs := (mkE tab [(92, m_w_eqTurn)] [])
set_option maxRecDepth 4000 in
theorem ek_w_eqTurnS : EnvOK Try.prog E_w_eqTurnS := (mkE_ok tab_ok mixed (AllF.cons ok_w_eqTurn AllF.nil) AllX.nil)
def lm_L_w_eqTurnS_1 : LM := { mat := [], head := { slots := [(0, .dat false (.slice tTurn)), (1, .dat false (.slice tTurn)), (4, .dat false .bool), (5, .dat false (.int .i64))], blks := [] }, out := { slots := [(4, .dat false .bool)], blks := [] }, ex := 0, rets := true, run := iter L_w_eqTurnS_1 fuel }
def ll_w_eqTurnS : List (Nat × LP) := [(4, .lm lm_L_w_eqTurnS_1)]
theorem rd_L_w_eqTurnS_1 (rec' : ((List dTurn) × (List dTurn) × Bool × Int × Unit) × (Unit) → Option (Bool × ((Bool × Unit) × (Unit)))) (a : (List dTurn)) (b : (List dTurn)) (t4 : Bool) (i : Int) : round E_w_eqTurnS (lookL ll_w_eqTurnS) lm_L_w_eqTurnS_1 27 (loopAt Try.f61 0) rec' ((a, b, t4, i, ()), (())) = L_w_eqTurnS_1 rec' ((a, b, t4, i, ()), (())) := by kernel_rfl
theorem lo_w_eqTurnS : Loops E_w_eqTurnS (lookL ll_w_eqTurnS) Try.f61 := Loops.list (by kernel_rfl) (by kernel_rfl) ⟨LoopOK.iter (step := L_w_eqTurnS_1) (N := fun _ => fuel) (fun rec' x => by obtain ⟨⟨a, b, t4, i, ⟨⟩⟩, ⟨⟨⟩⟩⟩ := x; exact rd_L_w_eqTurnS_1 rec' a b t4 i) fun _ => rfl, trivial⟩
theorem ev_w_eqTurnS (a : (List dTurn)) (b : (List dTurn)) : evalF E_w_eqTurnS (lookL ll_w_eqTurnS) Try.f61 [.ro false (.slice tTurn), .ro false (.slice tTurn)] (.one false .bool) (a, b, ()) = g_w_eqTurnS a b := by kernel_rfl
def m_w_eqTurnS : FM := { ps := [.ro false (.slice tTurn), .ro false (.slice tTurn)], res := .one false .bool, run := fun x => g_w_eqTurnS x.1 x.2.1 }
set_option maxRecDepth 4000 in
theorem ok_w_eqTurnS : FmOK Try.prog 61 m_w_eqTurnS := @FmOK.made Try.prog E_w_eqTurnS ek_w_eqTurnS 61 Try.f61 (lookL ll_w_eqTurnS) m_w_eqTurnS Try.func61 (by kernel_rfl) lo_w_eqTurnS fun ds out _ hr => by obtain ⟨a, b, ⟨⟩⟩ := ds; exact (ev_w_eqTurnS a b).trans hr

def E_w_eqPose : Tabs := (mkE tab [(60, m_w_eqVector), (61, m_w_eqTurnS)] [])
set_option maxRecDepth 4000 in
theorem ek_w_eqPose : EnvOK Try.prog E_w_eqPose := (mkE_ok tab_ok mixed (AllF.cons ok_w_eqVector (AllF.cons ok_w_eqTurnS AllF.nil)) AllX.nil)
theorem ev_w_eqPose (a : dPose) (b : dPose) : evalF E_w_eqPose noL Try.f30 [.ro true tPose, .ro true tPose] (.one false .bool) (a, b, ()) = g_w_eqPose a b := by kernel_rfl
def m_w_eqPose : FM := { ps := [.ro true tPose, .ro true tPose], res := .one false .bool, run := fun x => g_w_eqPose x.1 x.2.1 }
set_option maxRecDepth 4000 in
theorem ok_w_eqPose : FmOK Try.prog 30 m_w_eqPose := @FmOK.made Try.prog E_w_eqPose ek_w_eqPose 30 Try.f30 noL m_w_eqPose Try.func30 (by kernel_rfl) (Loops.none (by kernel_rfl)) fun ds out _ hr => by obtain ⟨a, b, ⟨⟩⟩ := ds; exact (ev_w_eqPose a b).trans hr

def E_w_eqPoseS : Tabs := (mkE tab [(30, m_w_eqPose)] [])
set_option maxRecDepth 4000 in
theorem ek_w_eqPoseS : EnvOK Try.prog E_w_eqPoseS := (mkE_ok tab_ok mixed (AllF.cons ok_w_eqPose AllF.nil) AllX.nil)
def lm_L_w_eqPoseS_1 : LM := { mat := [], head := { slots := [(0, .dat false (.slice tPose)), (1, .dat false (.slice tPose)), (4, .dat false .bool), (5, .dat false (.int .i64))], blks := [] }, out := { slots := [(4, .dat false .bool)], blks := [] }, ex := 0, rets := true, run := iter L_w_eqPoseS_1 fuel }
def ll_w_eqPoseS : List (Nat × LP) := [(4, .lm lm_L_w_eqPoseS_1)]
theorem rd_L_w_eqPoseS_1 (rec' : ((List dPose) × (List dPose) × Bool × Int × Unit) × (Unit) → Option (Bool × ((Bool × Unit) × (Unit)))) (a : (List dPose)) (b : (List dPose)) (t4 : Bool) (i : Int) : round E_w_eqPoseS (lookL ll_w_eqPoseS) lm_L_w_eqPoseS_1 27 (loopAt Try.f8 0) rec' ((a, b, t4, i, ()), (())) = L_w_eqPoseS_1 rec' ((a, b, t4, i, ()), (())) := by kernel_rfl
theorem lo_w_eqPoseS : Loops E_w_eqPoseS (lookL ll_w_eqPoseS) Try.f8 := Loops.list (by kernel_rfl) (by kernel_rfl) ⟨LoopOK.iter (step := L_w_eqPoseS_1) (N := fun _ => fuel) (fun rec' x => by obtain ⟨⟨a, b, t4, i, ⟨⟩⟩, ⟨⟨⟩⟩⟩ := x; exact rd_L_w_eqPoseS_1 rec' a b t4 i) fun _ => rfl, trivial⟩
theorem ev_w_eqPoseS (a : (List dPose)) (b : (List dPose)) : evalF E_w_eqPoseS (lookL ll_w_eqPoseS) Try.f8 [.ro false (.slice tPose), .ro false (.slice tPose)] (.one false .bool) (a, b, ()) = g_w_eqPoseS a b := by kernel_rfl
def m_w_eqPoseS : FM := { ps := [.ro false (.slice tPose), .ro false (.slice tPose)], res := .one false .bool, run := fun x => g_w_eqPoseS x.1 x.2.1 }
set_option maxRecDepth 4000 in
theorem ok_w_eqPoseS : FmOK Try.prog 8 m_w_eqPoseS := @FmOK.made Try.prog E_w_eqPoseS ek_w_eqPoseS 8 Try.f8 (lookL ll_w_eqPoseS) m_w_eqPoseS Try.func8 (by kernel_rfl) lo_w_eqPoseS fun ds out _ hr => by obtain ⟨a, b, ⟨⟩⟩ := ds; exact (ev_w_eqPoseS a b).trans hr

def E_w_markTurnS : Tabs := (mkE tab [] [])
set_option maxRecDepth 4000 in
theorem ek_w_markTurnS : EnvOK Try.prog E_w_markTurnS := (mkE_ok tab_ok mixed AllF.nil AllX.nil)
def lm_L_w_markTurnS_1 : LM := { mat := [], head := { slots := [(0, .cst (.sl (.row 0))), (1, .dat false (.int .i64)), (5, .dat false (.int .i64))], blks := [.row true tTurn] }, out := { slots := [(1, .dat false (.int .i64))], blks := [.row true tTurn] }, ex := 0, rets := false, run := iter L_w_markTurnS_1 fuel }
def ll_w_markTurnS : List (Nat × LP) := [(2, .lm lm_L_w_markTurnS_1)]
theorem rd_L_w_markTurnS_1 (rec' : (Int × Int × Unit) × ((List dTurn) × Unit) → Option ((Int × Unit) × ((List dTurn) × Unit))) (k : Int) (i : Int) (r0 : (List dTurn)) : round E_w_markTurnS (lookL ll_w_markTurnS) lm_L_w_markTurnS_1 45 (loopAt Try.f31 0) rec' ((k, i, ()), (r0, ())) = L_w_markTurnS_1 rec' ((k, i, ()), (r0, ())) := by kernel_rfl
theorem lo_w_markTurnS : Loops E_w_markTurnS (lookL ll_w_markTurnS) Try.f31 := Loops.list (by kernel_rfl) (by kernel_rfl) ⟨LoopOK.iter (step := L_w_markTurnS_1) (N := fun _ => fuel) (fun rec' x => by obtain ⟨⟨k, i, ⟨⟩⟩, ⟨r0, ⟨⟩⟩⟩ := x; exact rd_L_w_markTurnS_1 rec' k i r0) fun _ => rfl, trivial⟩
theorem ev_w_markTurnS (a : (List dTurn)) (k : Int) : evalX E_w_markTurnS (lookL ll_w_markTurnS) Try.f31 [.own false (.slice tTurn), .ro false (.int .i64)] (.one false (.int .i64)) (a, k, ()) = g_w_markTurnS a k := by kernel_rfl
def m_w_markTurnS : FX := { ps := [.own false (.slice tTurn), .ro false (.int .i64)], res := .one false (.int .i64), run := fun x => g_w_markTurnS x.1 x.2.1 }
set_option maxRecDepth 4000 in
theorem ok_w_markTurnS : FxOK Try.prog 31 m_w_markTurnS := @FxOK.made Try.prog E_w_markTurnS ek_w_markTurnS 31 Try.f31 (lookL ll_w_markTurnS) m_w_markTurnS Try.func31 (by kernel_rfl) lo_w_markTurnS fun ds out _ hr => by obtain ⟨a, k, ⟨⟩⟩ := ds; exact (ev_w_markTurnS a k).trans hr

def E_w_markPoseS : Tabs := (mkE tab [] [(31, m_w_markTurnS)])
set_option maxRecDepth 4000 in
theorem ek_w_markPoseS : EnvOK Try.prog E_w_markPoseS := (mkE_ok tab_ok mixed AllF.nil (AllX.cons ok_w_markTurnS AllX.nil))
def lm_L_w_markPoseS_1 : LM := { mat := [], head := { slots := [(0, .cst (.sl (.row 0))), (1, .dat false (.int .i64)), (5, .dat false (.int .i64))], blks := [.row true tPose] }, out := { slots := [(1, .dat false (.int .i64))], blks := [.row true tPose] }, ex := 0, rets := false, run := iter L_w_markPoseS_1 fuel }
def ll_w_markPoseS : List (Nat × LP) := [(2, .lm lm_L_w_markPoseS_1)]
theorem rd_L_w_markPoseS_1 (rec' : (Int × Int × Unit) × ((List dPose) × Unit) → Option ((Int × Unit) × ((List dPose) × Unit))) (k : Int) (i : Int) (r0 : (List dPose)) : round E_w_markPoseS (lookL ll_w_markPoseS) lm_L_w_markPoseS_1 47 (loopAt Try.f9 0) rec' ((k, i, ()), (r0, ())) = L_w_markPoseS_1 rec' ((k, i, ()), (r0, ())) := by kernel_rfl
theorem lo_w_markPoseS : Loops E_w_markPoseS (lookL ll_w_markPoseS) Try.f9 := Loops.list (by kernel_rfl) (by kernel_rfl) ⟨LoopOK.iter (step := L_w_markPoseS_1) (N := fun _ => fuel) (fun rec' x => by obtain ⟨⟨k, i, ⟨⟩⟩, ⟨r0, ⟨⟩⟩⟩ := x; exact rd_L_w_markPoseS_1 rec' k i r0) fun _ => rfl, trivial⟩
theorem ev_w_markPoseS (a : (List dPose)) (k : Int) : evalX E_w_markPoseS (lookL ll_w_markPoseS) Try.f9 [.own false (.slice tPose), .ro false (.int .i64)] (.one false (.int .i64)) (a, k, ()) = g_w_markPoseS a k := by kernel_rfl
def m_w_markPoseS : FX := { ps := [.own false (.slice tPose), .ro false (.int .i64)], res := .one false (.int .i64), run := fun x => g_w_markPoseS x.1 x.2.1 }
set_option maxRecDepth 4000 in
theorem ok_w_markPoseS : FxOK Try.prog 9 m_w_markPoseS := @FxOK.made Try.prog E_w_markPoseS ek_w_markPoseS 9 Try.f9 (lookL ll_w_markPoseS) m_w_markPoseS Try.func9 (by kernel_rfl) lo_w_markPoseS fun ds out _ hr => by obtain ⟨a, k, ⟨⟩⟩ := ds; exact (ev_w_markPoseS a k).trans hr

def E_w_heldTurnS : Tabs := (mkE tab [] [])
set_option maxRecDepth 4000 in
theorem ek_w_heldTurnS : EnvOK Try.prog E_w_heldTurnS := (mkE_ok tab_ok mixed AllF.nil AllX.nil)
def lm_L_w_heldTurnS_1 : LM := { mat := [], head := { slots := [(0, .dat false (.slice tTurn)), (1, .dat false (.int .i64)), (4, .dat false (.int .i64)), (5, .dat false (.int .i64))], blks := [] }, out := { slots := [(1, .dat false (.int .i64)), (4, .dat false (.int .i64))], blks := [] }, ex := 0, rets := true, run := iter L_w_heldTurnS_1 fuel }
def ll_w_heldTurnS : List (Nat × LP) := [(2, .lm lm_L_w_heldTurnS_1)]
theorem rd_L_w_heldTurnS_1 (rec' : ((List dTurn) × Int × Int × Int × Unit) × (Unit) → Option (Bool × ((Int × Int × Unit) × (Unit)))) (a : (List dTurn)) (k : Int) (t4 : Int) (i : Int) : round E_w_heldTurnS (lookL ll_w_heldTurnS) lm_L_w_heldTurnS_1 53 (loopAt Try.f32 0) rec' ((a, k, t4, i, ()), (())) = L_w_heldTurnS_1 rec' ((a, k, t4, i, ()), (())) := by kernel_rfl
theorem lo_w_heldTurnS : Loops E_w_heldTurnS (lookL ll_w_heldTurnS) Try.f32 := Loops.list (by kernel_rfl) (by kernel_rfl) ⟨LoopOK.iter (step := L_w_heldTurnS_1) (N := fun _ => fuel) (fun rec' x => by obtain ⟨⟨a, k, t4, i, ⟨⟩⟩, ⟨⟨⟩⟩⟩ := x; exact rd_L_w_heldTurnS_1 rec' a k t4 i) fun _ => rfl, trivial⟩
theorem ev_w_heldTurnS (a : (List dTurn)) (k : Int) : evalF E_w_heldTurnS (lookL ll_w_heldTurnS) Try.f32 [.ro false (.slice tTurn), .ro false (.int .i64)] (.one false (.int .i64)) (a, k, ()) = g_w_heldTurnS a k := by kernel_rfl
def m_w_heldTurnS : FM := { ps := [.ro false (.slice tTurn), .ro false (.int .i64)], res := .one false (.int .i64), run := fun x => g_w_heldTurnS x.1 x.2.1 }
set_option maxRecDepth 4000 in
theorem ok_w_heldTurnS : FmOK Try.prog 32 m_w_heldTurnS := @FmOK.made Try.prog E_w_heldTurnS ek_w_heldTurnS 32 Try.f32 (lookL ll_w_heldTurnS) m_w_heldTurnS Try.func32 (by kernel_rfl) lo_w_heldTurnS fun ds out _ hr => by obtain ⟨a, k, ⟨⟩⟩ := ds; exact (ev_w_heldTurnS a k).trans hr

def E_w_heldPoseS : Tabs := (mkE tab [(32, m_w_heldTurnS)] [])
set_option maxRecDepth 4000 in
theorem ek_w_heldPoseS : EnvOK Try.prog E_w_heldPoseS := (mkE_ok tab_ok mixed (AllF.cons ok_w_heldTurnS AllF.nil) AllX.nil)
def lm_L_w_heldPoseS_1 : LM := { mat := [], head := { slots := [(0, .dat false (.slice tPose)), (1, .dat false (.int .i64)), (4, .dat false (.int .i64)), (5, .dat false (.int .i64))], blks := [] }, out := { slots := [(1, .dat false (.int .i64)), (4, .dat false (.int .i64))], blks := [] }, ex := 0, rets := true, run := iter L_w_heldPoseS_1 fuel }
def ll_w_heldPoseS : List (Nat × LP) := [(2, .lm lm_L_w_heldPoseS_1)]
theorem rd_L_w_heldPoseS_1 (rec' : ((List dPose) × Int × Int × Int × Unit) × (Unit) → Option (Bool × ((Int × Int × Unit) × (Unit)))) (a : (List dPose)) (k : Int) (t4 : Int) (i : Int) : round E_w_heldPoseS (lookL ll_w_heldPoseS) lm_L_w_heldPoseS_1 55 (loopAt Try.f10 0) rec' ((a, k, t4, i, ()), (())) = L_w_heldPoseS_1 rec' ((a, k, t4, i, ()), (())) := by kernel_rfl
theorem lo_w_heldPoseS : Loops E_w_heldPoseS (lookL ll_w_heldPoseS) Try.f10 := Loops.list (by kernel_rfl) (by kernel_rfl) ⟨LoopOK.iter (step := L_w_heldPoseS_1) (N := fun _ => fuel) (fun rec' x => by obtain ⟨⟨a, k, t4, i, ⟨⟩⟩, ⟨⟨⟩⟩⟩ := x; exact rd_L_w_heldPoseS_1 rec' a k t4 i) fun _ => rfl, trivial⟩
theorem ev_w_heldPoseS (a : (List dPose)) (k : Int) : evalF E_w_heldPoseS (lookL ll_w_heldPoseS) Try.f10 [.ro false (.slice tPose), .ro false (.int .i64)] (.one false (.int .i64)) (a, k, ()) = g_w_heldPoseS a k := by kernel_rfl
def m_w_heldPoseS : FM := { ps := [.ro false (.slice tPose), .ro false (.int .i64)], res := .one false (.int .i64), run := fun x => g_w_heldPoseS x.1 x.2.1 }
set_option maxRecDepth 4000 in
theorem ok_w_heldPoseS : FmOK Try.prog 10 m_w_heldPoseS := @FmOK.made Try.prog E_w_heldPoseS ek_w_heldPoseS 10 Try.f10 (lookL ll_w_heldPoseS) m_w_heldPoseS Try.func10 (by kernel_rfl) lo_w_heldPoseS fun ds out _ hr => by obtain ⟨a, k, ⟨⟩⟩ := ds; exact (ev_w_heldPoseS a k).trans hr

def E_w_FnExactUnpackPoses : Tabs := (mkE tab [(6, m_w_toPacking), (5, m_s_UnpackPoses), (7, m_i_UnpackPoses), (8, m_w_eqPoseS), (10, m_w_heldPoseS)] [(9, m_w_markPoseS)])
set_option maxRecDepth 4000 in
theorem ek_w_FnExactUnpackPoses : EnvOK Try.prog E_w_FnExactUnpackPoses := (mkE_ok tab_ok mixed (AllF.cons ok_w_toPacking (AllF.cons ok_s_UnpackPoses (AllF.cons ok_i_UnpackPoses (AllF.cons ok_w_eqPoseS (AllF.cons ok_w_heldPoseS AllF.nil))))) (AllX.cons ok_w_markPoseS AllX.nil))
theorem ev_w_FnExactUnpackPoses (aP : dPacking) (aCount : Int) (aS : ByteArray) : evalF E_w_FnExactUnpackPoses noL Try.f3 [.ro true tPacking, .ro false (.int .i64), .ro false .str] (.one false .bool) (aP, aCount, aS, ()) = g_w_FnExactUnpackPoses aP aCount aS := by kernel_rfl
end
end Go.Fw.U
