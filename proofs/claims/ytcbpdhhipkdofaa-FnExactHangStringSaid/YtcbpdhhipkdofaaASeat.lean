/- The functions of the translation compute what the plain functions compute. No condition. -/
import Derived.Test.YtcbpdhhipkdofaaAPure
import Derived.Test.YtcbpdhhipkdofaaProg
import Derived.KernelRfl
set_option linter.unusedVariables false
namespace Go.Fw.A
open Go.Fw Go.Proofs Go.RowKit
noncomputable section
def tab : List (Nat × TI) := [
  (2, { und := .int .i64, size := 1, bytes := 8, zero := [.int .i64 0], ty := (.int .i64) }),
  (3, { und := .int .i64, size := 1, bytes := 8, zero := [.int .i64 0], ty := (.int .i64) }),
  (4, { und := .bool, size := 1, bytes := 1, zero := [.bool false], ty := .bool }),
  (22, { und := .slice 28, size := 1, bytes := 24, zero := [.sl .nil], ty := (.slice (.flt .f32)) }),
  (28, { und := .flt .f32, size := 1, bytes := 4, zero := [.flt .f32 0], ty := (.flt .f32) }),
  (30, { und := .struct [(0, 28), (1, 28), (2, 28)], size := 3, bytes := 12, zero := [.flt .f32 0, .flt .f32 0, .flt .f32 0], ty := tVec }),
  (33, { und := .slice 30, size := 1, bytes := 24, zero := [.sl .nil], ty := (.slice tVec) }),
  (55, { und := .slice 4, size := 1, bytes := 24, zero := [.sl .nil], ty := (.slice .bool) }),
  (56, { und := .struct [(0, 28), (1, 28), (2, 28)], size := 3, bytes := 12, zero := [.flt .f32 0, .flt .f32 0, .flt .f32 0], ty := tVec }),
  (62, { und := .struct [(0, 33), (1, 33), (2, 55), (3, 22), (4, 30), (7, 28), (8, 2)], size := 9, bytes := 120, zero := [.sl .nil, .sl .nil, .sl .nil, .sl .nil, .flt .f32 0, .flt .f32 0, .flt .f32 0, .flt .f32 0, .int .i64 0], ty := tString }),
  (69, { und := .flt .f64, size := 1, bytes := 8, zero := [.flt .f64 0], ty := (.flt .f64) }),
  (150, { und := .int .u64, size := 1, bytes := 8, zero := [.int .u64 0], ty := (.int .u64) }),
  (157, { und := .int .u32, size := 1, bytes := 4, zero := [.int .u32 0], ty := (.int .u32) }),
  (160, { und := .int .u64, size := 1, bytes := 8, zero := [.int .u64 0], ty := (.int .u64) })]
theorem tab_ok : TabOK Try.prog (lookT tab) := tabB_spec (by kernel_rfl)
theorem mixed : Try.prog.follows .mixedOrders = true := by kernel_rfl
def E_w_toVector : Tabs := (mkE tab [] [])
set_option maxRecDepth 4000 in
theorem ek_w_toVector : EnvOK Try.prog E_w_toVector := (mkE_ok tab_ok mixed AllF.nil AllX.nil)
theorem ev_w_toVector (a : dVec) : evalF E_w_toVector noL Try.f67 [.ro true tVec] (.one true tVec) (a, ()) = g_w_toVector a := by kernel_rfl
def m_w_toVector : FM := { ps := [.ro true tVec], res := .one true tVec, run := fun x => some (t_w_toVector x.1) }
set_option maxRecDepth 4000 in
theorem ok_w_toVector : FmOK Try.prog 67 m_w_toVector := @FmOK.made Try.prog E_w_toVector ek_w_toVector 67 Try.f67 noL m_w_toVector Try.func67 (by kernel_rfl) (Loops.none (by kernel_rfl)) fun ds out _ hr => by obtain ⟨a, ⟨⟩⟩ := ds; exact (ev_w_toVector a).trans ((q_w_toVector a).trans hr)

def E_s_l00In : Tabs := (mkE tab [] [])
set_option maxRecDepth 4000 in
theorem ek_s_l00In : EnvOK Try.prog E_s_l00In := (mkE_ok tab_ok mixed AllF.nil AllX.nil)
theorem ev_s_l00In (n : Int) (low : Int) (high : Int) : evalF E_s_l00In noL Try.f77 [.ro false (.int .i64), .ro false (.int .i64), .ro false (.int .i64)] (.one false .bool) (n, low, high, ()) = g_s_l00In n low high := by kernel_rfl
def m_s_l00In : FM := { ps := [.ro false (.int .i64), .ro false (.int .i64), .ro false (.int .i64)], res := .one false .bool, run := fun x => some (t_s_l00In x.1 x.2.1 x.2.2.1) }
set_option maxRecDepth 4000 in
theorem ok_s_l00In : FmOK Try.prog 77 m_s_l00In := @FmOK.made Try.prog E_s_l00In ek_s_l00In 77 Try.f77 noL m_s_l00In Try.func77 (by kernel_rfl) (Loops.none (by kernel_rfl)) fun ds out _ hr => by obtain ⟨n, low, high, ⟨⟩⟩ := ds; exact (ev_s_l00In n low high).trans ((q_s_l00In n low high).trans hr)

def E_s_HangString : Tabs := (mkE tab [(77, m_s_l00In)] [])
set_option maxRecDepth 4000 in
theorem ek_s_HangString : EnvOK Try.prog E_s_HangString := (mkE_ok tab_ok mixed (AllF.cons ok_s_l00In AllF.nil) AllX.nil)
def lm_L_s_HangString_1 : LM := { mat := [], head := { slots := [(1, .dat false (.int .i64)), (2, .dat false (.flt .f32)), (3, .cst (.ptr (.box 0 0))), (6, .cst (.ptr (.box 1 0))), (8, .cst (.ptr (.box 5 0))), (9, .dat false (.int .i64))], blks := [.box [.dat tVec], .box [.cst (.sl .nil), .cst (.sl .nil), .cst (.sl .nil), .cst (.sl .nil), .dat (.pair tVec (.pair (.flt .f32) (.pair (.int .i64) .unit)))], .row false tVec, .row false .bool, .row false (.flt .f32), .box [.cst (.sl (.row 2)), .cst (.sl .nil), .cst (.sl (.row 3)), .cst (.sl (.row 4)), .dat (.pair tVec (.pair (.flt .f32) (.pair (.int .i64) .unit)))]] }, out := { slots := [(6, .cst (.ptr (.box 1 0))), (8, .cst (.ptr (.box 5 0)))], blks := [.dead, .box [.cst (.sl .nil), .cst (.sl .nil), .cst (.sl .nil), .cst (.sl .nil), .dat (.pair tVec (.pair (.flt .f32) (.pair (.int .i64) .unit)))], .row false tVec, .row false .bool, .row false (.flt .f32), .box [.cst (.sl (.row 2)), .cst (.sl .nil), .cst (.sl (.row 3)), .cst (.sl (.row 4)), .dat (.pair tVec (.pair (.flt .f32) (.pair (.int .i64) .unit)))]] }, ex := 0, rets := false, run := iter L_s_HangString_1 fuel }
def ll_s_HangString : List (Nat × LP) := [(5, .lm lm_L_s_HangString_1)]
theorem rd_L_s_HangString_1 (rec' : (Int × Nat × Int × Unit) × ((dVec × Unit) × ((dVec × (Nat × (Int × Unit))) × Unit) × (List dVec) × (List Bool) × (List Nat) × ((dVec × (Nat × (Int × Unit))) × Unit) × Unit) → Option ((Unit) × (((dVec × (Nat × (Int × Unit))) × Unit) × (List dVec) × (List Bool) × (List Nat) × ((dVec × (Nat × (Int × Unit))) × Unit) × Unit))) (count : Int) (length : Nat) (i : Int) (b0 : dVec) (b1 : (dVec × (Nat × (Int × Unit)))) (r2 : (List dVec)) (r3 : (List Bool)) (r4 : (List Nat)) (b5 : (dVec × (Nat × (Int × Unit)))) : round E_s_HangString (lookL ll_s_HangString) lm_L_s_HangString_1 52 (loopAt Try.f66 0) rec' ((count, length, i, ()), ((b0, ()), (b1, ()), r2, r3, r4, (b5, ()), ())) = L_s_HangString_1 rec' ((count, length, i, ()), ((b0, ()), (b1, ()), r2, r3, r4, (b5, ()), ())) := by kernel_rfl
theorem lo_s_HangString : Loops E_s_HangString (lookL ll_s_HangString) Try.f66 := Loops.list (by kernel_rfl) (by kernel_rfl) ⟨LoopOK.iter (step := L_s_HangString_1) (N := fun _ => fuel) (fun rec' x => by obtain ⟨⟨count, length, i, ⟨⟩⟩, ⟨⟨b0, ⟨⟩⟩, ⟨b1, ⟨⟩⟩, r2, r3, r4, ⟨b5, ⟨⟩⟩, ⟨⟩⟩⟩ := x; exact rd_L_s_HangString_1 rec' count length i b0 b1 r2 r3 r4 b5) fun _ => rfl, trivial⟩
theorem ev_s_HangString (fromx : dVec) (count : Int) (length : Nat) : evalF E_s_HangString (lookL ll_s_HangString) Try.f66 [.ro true tVec, .ro false (.int .i64), .ro false (.flt .f32)] (.tup [(true, tString), (false, .bool)]) (fromx, count, length, ()) = g_s_HangString fromx count length := by kernel_rfl
def m_s_HangString : FM := { ps := [.ro true tVec, .ro false (.int .i64), .ro false (.flt .f32)], res := .tup [(true, tString), (false, .bool)], run := fun x => g_s_HangString x.1 x.2.1 x.2.2.1 }
set_option maxRecDepth 4000 in
theorem ok_s_HangString : FmOK Try.prog 66 m_s_HangString := @FmOK.made Try.prog E_s_HangString ek_s_HangString 66 Try.f66 (lookL ll_s_HangString) m_s_HangString Try.func66 (by kernel_rfl) lo_s_HangString fun ds out _ hr => by obtain ⟨fromx, count, length, ⟨⟩⟩ := ds; exact (ev_s_HangString fromx count length).trans hr

def E_math_bits_Mul64 : Tabs := (mkE tab [] [])
set_option maxRecDepth 4000 in
theorem ek_math_bits_Mul64 : EnvOK Try.prog E_math_bits_Mul64 := (mkE_ok tab_ok mixed AllF.nil AllX.nil)
theorem ev_math_bits_Mul64 (xx : Int) (y : Int) : evalF E_math_bits_Mul64 noL Try.f140 [.ro false (.int .u64), .ro false (.int .u64)] (.tup [(false, (.int .u64)), (false, (.int .u64))]) (xx, y, ()) = g_math_bits_Mul64 xx y := by kernel_rfl
def m_math_bits_Mul64 : FM := { ps := [.ro false (.int .u64), .ro false (.int .u64)], res := .tup [(false, (.int .u64)), (false, (.int .u64))], run := fun x => some (t_math_bits_Mul64 x.1 x.2.1) }
set_option maxRecDepth 4000 in
theorem ok_math_bits_Mul64 : FmOK Try.prog 140 m_math_bits_Mul64 := @FmOK.made Try.prog E_math_bits_Mul64 ek_math_bits_Mul64 140 Try.f140 noL m_math_bits_Mul64 Try.func140 (by kernel_rfl) (Loops.none (by kernel_rfl)) fun ds out _ hr => by obtain ⟨xx, y, ⟨⟩⟩ := ds; exact (ev_math_bits_Mul64 xx y).trans ((q_math_bits_Mul64 xx y).trans hr)

def E_math_bits_Mul : Tabs := (mkE tab [(140, m_math_bits_Mul64)] [])
set_option maxRecDepth 4000 in
theorem ek_math_bits_Mul : EnvOK Try.prog E_math_bits_Mul := (mkE_ok tab_ok mixed (AllF.cons ok_math_bits_Mul64 AllF.nil) AllX.nil)
theorem ev_math_bits_Mul (xx : Int) (y : Int) : evalF E_math_bits_Mul noL Try.f134 [.ro false (.int .u64), .ro false (.int .u64)] (.tup [(false, (.int .u64)), (false, (.int .u64))]) (xx, y, ()) = g_math_bits_Mul xx y := by kernel_rfl
def m_math_bits_Mul : FM := { ps := [.ro false (.int .u64), .ro false (.int .u64)], res := .tup [(false, (.int .u64)), (false, (.int .u64))], run := fun x => some (t_math_bits_Mul x.1 x.2.1) }
set_option maxRecDepth 4000 in
theorem ok_math_bits_Mul : FmOK Try.prog 134 m_math_bits_Mul := @FmOK.made Try.prog E_math_bits_Mul ek_math_bits_Mul 134 Try.f134 noL m_math_bits_Mul Try.func134 (by kernel_rfl) (Loops.none (by kernel_rfl)) fun ds out _ hr => by obtain ⟨xx, y, ⟨⟩⟩ := ds; exact (ev_math_bits_Mul xx y).trans ((q_math_bits_Mul xx y).trans hr)

def E_slices_Repeat_float32_float32 : Tabs := (mkE tab [(134, m_math_bits_Mul)] [])
set_option maxRecDepth 4000 in
theorem ek_slices_Repeat_float32_float32 : EnvOK Try.prog E_slices_Repeat_float32_float32 := (mkE_ok tab_ok mixed (AllF.cons ok_math_bits_Mul AllF.nil) AllX.nil)
def lm_L_slices_Repeat_float32_float32_1 : LM := { mat := [], head := { slots := [(7, .cst (.sl (.row 0))), (8, .dat false (.int .i64))], blks := [.row false (.flt .f32)] }, out := { slots := [(7, .cst (.sl (.row 0)))], blks := [.row false (.flt .f32)] }, ex := 0, rets := false, run := iter L_slices_Repeat_float32_float32_1 fuel }
def ll_slices_Repeat_float32_float32 : List (Nat × LP) := [(8, .lm lm_L_slices_Repeat_float32_float32_1)]
theorem rd_L_slices_Repeat_float32_float32_1 (rec' : (Int × Unit) × ((List Nat) × Unit) → Option ((Unit) × ((List Nat) × Unit))) (n : Int) (r0 : (List Nat)) : round E_slices_Repeat_float32_float32 (lookL ll_slices_Repeat_float32_float32) lm_L_slices_Repeat_float32_float32_1 48 (loopAt Try.f116 0) rec' ((n, ()), (r0, ())) = L_slices_Repeat_float32_float32_1 rec' ((n, ()), (r0, ())) := by kernel_rfl
theorem lo_slices_Repeat_float32_float32 : Loops E_slices_Repeat_float32_float32 (lookL ll_slices_Repeat_float32_float32) Try.f116 := Loops.list (by kernel_rfl) (by kernel_rfl) ⟨LoopOK.iter (step := L_slices_Repeat_float32_float32_1) (N := fun _ => fuel) (fun rec' x => by obtain ⟨⟨n, ⟨⟩⟩, ⟨r0, ⟨⟩⟩⟩ := x; exact rd_L_slices_Repeat_float32_float32_1 rec' n r0) fun _ => rfl, trivial⟩
theorem ev_slices_Repeat_float32_float32 (xx : (List Nat)) (count : Int) : evalF E_slices_Repeat_float32_float32 (lookL ll_slices_Repeat_float32_float32) Try.f116 [.ro false (.slice (.flt .f32)), .ro false (.int .i64)] (.one false (.slice (.flt .f32))) (xx, count, ()) = g_slices_Repeat_float32_float32 xx count := by kernel_rfl
def m_slices_Repeat_float32_float32 : FM := { ps := [.ro false (.slice (.flt .f32)), .ro false (.int .i64)], res := .one false (.slice (.flt .f32)), run := fun x => g_slices_Repeat_float32_float32 x.1 x.2.1 }
set_option maxRecDepth 4000 in
theorem ok_slices_Repeat_float32_float32 : FmOK Try.prog 116 m_slices_Repeat_float32_float32 := @FmOK.made Try.prog E_slices_Repeat_float32_float32 ek_slices_Repeat_float32_float32 116 Try.f116 (lookL ll_slices_Repeat_float32_float32) m_slices_Repeat_float32_float32 Try.func116 (by kernel_rfl) lo_slices_Repeat_float32_float32 fun ds out _ hr => by obtain ⟨xx, count, ⟨⟩⟩ := ds; exact (ev_slices_Repeat_float32_float32 xx count).trans hr

def E_slices_Clone_i_Vector_i_Vector : Tabs := (mkE tab [] [])
set_option maxRecDepth 4000 in
theorem ek_slices_Clone_i_Vector_i_Vector : EnvOK Try.prog E_slices_Clone_i_Vector_i_Vector := (mkE_ok tab_ok mixed AllF.nil AllX.nil)
theorem ev_slices_Clone_i_Vector_i_Vector (s : (List dVec)) : evalF E_slices_Clone_i_Vector_i_Vector noL Try.f117 [.ro false (.slice tVec)] (.one false (.slice tVec)) (s, ()) = g_slices_Clone_i_Vector_i_Vector s := by kernel_rfl
def m_slices_Clone_i_Vector_i_Vector : FM := { ps := [.ro false (.slice tVec)], res := .one false (.slice tVec), run := fun x => g_slices_Clone_i_Vector_i_Vector x.1 }
set_option maxRecDepth 4000 in
theorem ok_slices_Clone_i_Vector_i_Vector : FmOK Try.prog 117 m_slices_Clone_i_Vector_i_Vector := @FmOK.made Try.prog E_slices_Clone_i_Vector_i_Vector ek_slices_Clone_i_Vector_i_Vector 117 Try.f117 noL m_slices_Clone_i_Vector_i_Vector Try.func117 (by kernel_rfl) (Loops.none (by kernel_rfl)) fun ds out _ hr => by obtain ⟨s, ⟨⟩⟩ := ds; exact (ev_slices_Clone_i_Vector_i_Vector s).trans hr

def E_i_HangString : Tabs := (mkE tab [(116, m_slices_Repeat_float32_float32), (117, m_slices_Clone_i_Vector_i_Vector)] [])
set_option maxRecDepth 4000 in
theorem ek_i_HangString : EnvOK Try.prog E_i_HangString := (mkE_ok tab_ok mixed (AllF.cons ok_slices_Repeat_float32_float32 (AllF.cons ok_slices_Clone_i_Vector_i_Vector AllF.nil)) AllX.nil)
def lm_L_i_HangString_1 : LM := { mat := [.cell 5 0 tVec], head := { slots := [(2, .dat false (.flt .f32)), (3, .cst (.ptr (.box 0 0))), (6, .cst (.ptr (.box 1 0))), (8, .cst (.ptr (.box 5 0))), (27, .dat false (.int .i64)), (28, .dat false (.int .i64))], blks := [.box [.dat tVec], .box [.cst (.sl .nil), .cst (.sl .nil), .cst (.sl .nil), .cst (.sl .nil), .dat (.pair tVec (.pair (.flt .f32) (.pair (.int .i64) .unit)))], .row false .bool, .dead, .row false (.flt .f32), .box [.cst (.sl (.row 6)), .cst (.sl .nil), .cst (.sl (.row 2)), .cst (.sl (.row 4)), .dat (.pair tVec (.pair (.flt .f32) (.pair (.int .i64) .unit)))], .row false tVec] }, out := { slots := [(6, .cst (.ptr (.box 1 0))), (8, .cst (.ptr (.box 5 0)))], blks := [.dead, .box [.cst (.sl .nil), .cst (.sl .nil), .cst (.sl .nil), .cst (.sl .nil), .dat (.pair tVec (.pair (.flt .f32) (.pair (.int .i64) .unit)))], .row false .bool, .dead, .row false (.flt .f32), .box [.cst (.sl (.row 6)), .cst (.sl .nil), .cst (.sl (.row 2)), .cst (.sl (.row 4)), .dat (.pair tVec (.pair (.flt .f32) (.pair (.int .i64) .unit)))], .row false tVec] }, ex := 0, rets := false, run := iter L_i_HangString_1 fuel }
def ll_i_HangString : List (Nat × LP) := [(6, .lm lm_L_i_HangString_1)]
theorem rd_L_i_HangString_1 (rec' : (Nat × Int × Int × Unit) × ((dVec × Unit) × ((dVec × (Nat × (Int × Unit))) × Unit) × (List Bool) × (List Nat) × ((dVec × (Nat × (Int × Unit))) × Unit) × (List dVec) × Unit) → Option ((Unit) × (((dVec × (Nat × (Int × Unit))) × Unit) × (List Bool) × (List Nat) × ((dVec × (Nat × (Int × Unit))) × Unit) × (List dVec) × Unit))) (length : Nat) (t27 : Int) (t28 : Int) (b0 : dVec) (b1 : (dVec × (Nat × (Int × Unit)))) (r2 : (List Bool)) (r4 : (List Nat)) (b5 : (dVec × (Nat × (Int × Unit)))) (r6 : (List dVec)) : round E_i_HangString (lookL ll_i_HangString) lm_L_i_HangString_1 47 (loopAt Try.f68 0) rec' ((length, t27, t28, ()), ((b0, ()), (b1, ()), r2, r4, (b5, ()), r6, ())) = L_i_HangString_1 rec' ((length, t27, t28, ()), ((b0, ()), (b1, ()), r2, r4, (b5, ()), r6, ())) := by kernel_rfl
theorem lo_i_HangString : Loops E_i_HangString (lookL ll_i_HangString) Try.f68 := Loops.list (by kernel_rfl) (by kernel_rfl) ⟨LoopOK.iter (step := L_i_HangString_1) (N := fun _ => fuel) (fun rec' x => by obtain ⟨⟨length, t27, t28, ⟨⟩⟩, ⟨⟨b0, ⟨⟩⟩, ⟨b1, ⟨⟩⟩, r2, r4, ⟨b5, ⟨⟩⟩, r6, ⟨⟩⟩⟩ := x; exact rd_L_i_HangString_1 rec' length t27 t28 b0 b1 r2 r4 b5 r6) fun _ => rfl, trivial⟩
theorem ev_i_HangString (fromx : dVec) (count : Int) (length : Nat) : evalF E_i_HangString (lookL ll_i_HangString) Try.f68 [.ro true tVec, .ro false (.int .i64), .ro false (.flt .f32)] (.tup [(true, tString), (false, .bool)]) (fromx, count, length, ()) = g_i_HangString fromx count length := by kernel_rfl
def m_i_HangString : FM := { ps := [.ro true tVec, .ro false (.int .i64), .ro false (.flt .f32)], res := .tup [(true, tString), (false, .bool)], run := fun x => g_i_HangString x.1 x.2.1 x.2.2.1 }
set_option maxRecDepth 4000 in
theorem ok_i_HangString : FmOK Try.prog 68 m_i_HangString := @FmOK.made Try.prog E_i_HangString ek_i_HangString 68 Try.f68 (lookL ll_i_HangString) m_i_HangString Try.func68 (by kernel_rfl) lo_i_HangString fun ds out _ hr => by obtain ⟨fromx, count, length, ⟨⟩⟩ := ds; exact (ev_i_HangString fromx count length).trans hr

def E_w_sameFloat : Tabs := (mkE tab [] [])
set_option maxRecDepth 4000 in
theorem ek_w_sameFloat : EnvOK Try.prog E_w_sameFloat := (mkE_ok tab_ok mixed AllF.nil AllX.nil)
theorem ev_w_sameFloat (a : Nat) (b : Nat) : evalF E_w_sameFloat noL Try.f46 [.ro false (.flt .f64), .ro false (.flt .f64)] (.one false .bool) (a, b, ()) = g_w_sameFloat a b := by kernel_rfl
def m_w_sameFloat : FM := { ps := [.ro false (.flt .f64), .ro false (.flt .f64)], res := .one false .bool, run := fun x => some (t_w_sameFloat x.1 x.2.1) }
set_option maxRecDepth 4000 in
theorem ok_w_sameFloat : FmOK Try.prog 46 m_w_sameFloat := @FmOK.made Try.prog E_w_sameFloat ek_w_sameFloat 46 Try.f46 noL m_w_sameFloat Try.func46 (by kernel_rfl) (Loops.none (by kernel_rfl)) fun ds out _ hr => by obtain ⟨a, b, ⟨⟩⟩ := ds; exact (ev_w_sameFloat a b).trans ((q_w_sameFloat a b).trans hr)

def E_w_eqVector : Tabs := (mkE tab [(46, m_w_sameFloat)] [])
set_option maxRecDepth 4000 in
theorem ek_w_eqVector : EnvOK Try.prog E_w_eqVector := (mkE_ok tab_ok mixed (AllF.cons ok_w_sameFloat AllF.nil) AllX.nil)
theorem ev_w_eqVector (a : dVec) (b : dVec) : evalF E_w_eqVector noL Try.f23 [.ro true tVec, .ro true tVec] (.one false .bool) (a, b, ()) = g_w_eqVector a b := by kernel_rfl
def m_w_eqVector : FM := { ps := [.ro true tVec, .ro true tVec], res := .one false .bool, run := fun x => some (t_w_eqVector x.1 x.2.1) }
set_option maxRecDepth 4000 in
theorem ok_w_eqVector : FmOK Try.prog 23 m_w_eqVector := @FmOK.made Try.prog E_w_eqVector ek_w_eqVector 23 Try.f23 noL m_w_eqVector Try.func23 (by kernel_rfl) (Loops.none (by kernel_rfl)) fun ds out _ hr => by obtain ⟨a, b, ⟨⟩⟩ := ds; exact (ev_w_eqVector a b).trans ((q_w_eqVector a b).trans hr)

def E_w_eqVectorS : Tabs := (mkE tab [(23, m_w_eqVector)] [])
set_option maxRecDepth 4000 in
theorem ek_w_eqVectorS : EnvOK Try.prog E_w_eqVectorS := (mkE_ok tab_ok mixed (AllF.cons ok_w_eqVector AllF.nil) AllX.nil)
def lm_L_w_eqVectorS_1 : LM := { mat := [], head := { slots := [(0, .dat false (.slice tVec)), (1, .dat false (.slice tVec)), (4, .dat false .bool), (5, .dat false (.int .i64))], blks := [] }, out := { slots := [(4, .dat false .bool)], blks := [] }, ex := 0, rets := true, run := iter L_w_eqVectorS_1 fuel }
def ll_w_eqVectorS : List (Nat × LP) := [(4, .lm lm_L_w_eqVectorS_1)]
theorem rd_L_w_eqVectorS_1 (rec' : ((List dVec) × (List dVec) × Bool × Int × Unit) × (Unit) → Option (Bool × ((Bool × Unit) × (Unit)))) (a : (List dVec)) (b : (List dVec)) (t4 : Bool) (i : Int) : round E_w_eqVectorS (lookL ll_w_eqVectorS) lm_L_w_eqVectorS_1 27 (loopAt Try.f24 0) rec' ((a, b, t4, i, ()), (())) = L_w_eqVectorS_1 rec' ((a, b, t4, i, ()), (())) := by kernel_rfl
theorem lo_w_eqVectorS : Loops E_w_eqVectorS (lookL ll_w_eqVectorS) Try.f24 := Loops.list (by kernel_rfl) (by kernel_rfl) ⟨LoopOK.iter (step := L_w_eqVectorS_1) (N := fun _ => fuel) (fun rec' x => by obtain ⟨⟨a, b, t4, i, ⟨⟩⟩, ⟨⟨⟩⟩⟩ := x; exact rd_L_w_eqVectorS_1 rec' a b t4 i) fun _ => rfl, trivial⟩
theorem ev_w_eqVectorS (a : (List dVec)) (b : (List dVec)) : evalF E_w_eqVectorS (lookL ll_w_eqVectorS) Try.f24 [.ro false (.slice tVec), .ro false (.slice tVec)] (.one false .bool) (a, b, ()) = g_w_eqVectorS a b := by kernel_rfl
def m_w_eqVectorS : FM := { ps := [.ro false (.slice tVec), .ro false (.slice tVec)], res := .one false .bool, run := fun x => g_w_eqVectorS x.1 x.2.1 }
set_option maxRecDepth 4000 in
theorem ok_w_eqVectorS : FmOK Try.prog 24 m_w_eqVectorS := @FmOK.made Try.prog E_w_eqVectorS ek_w_eqVectorS 24 Try.f24 (lookL ll_w_eqVectorS) m_w_eqVectorS Try.func24 (by kernel_rfl) lo_w_eqVectorS fun ds out _ hr => by obtain ⟨a, b, ⟨⟩⟩ := ds; exact (ev_w_eqVectorS a b).trans hr

def E_w_eqBoolS : Tabs := (mkE tab [] [])
set_option maxRecDepth 4000 in
theorem ek_w_eqBoolS : EnvOK Try.prog E_w_eqBoolS := (mkE_ok tab_ok mixed AllF.nil AllX.nil)
def lm_L_w_eqBoolS_1 : LM := { mat := [], head := { slots := [(0, .dat false (.slice .bool)), (1, .dat false (.slice .bool)), (4, .dat false .bool), (5, .dat false (.int .i64))], blks := [] }, out := { slots := [(4, .dat false .bool)], blks := [] }, ex := 0, rets := true, run := iter L_w_eqBoolS_1 fuel }
def ll_w_eqBoolS : List (Nat × LP) := [(4, .lm lm_L_w_eqBoolS_1)]
theorem rd_L_w_eqBoolS_1 (rec' : ((List Bool) × (List Bool) × Bool × Int × Unit) × (Unit) → Option (Bool × ((Bool × Unit) × (Unit)))) (a : (List Bool)) (b : (List Bool)) (t4 : Bool) (i : Int) : round E_w_eqBoolS (lookL ll_w_eqBoolS) lm_L_w_eqBoolS_1 26 (loopAt Try.f91 0) rec' ((a, b, t4, i, ()), (())) = L_w_eqBoolS_1 rec' ((a, b, t4, i, ()), (())) := by kernel_rfl
theorem lo_w_eqBoolS : Loops E_w_eqBoolS (lookL ll_w_eqBoolS) Try.f91 := Loops.list (by kernel_rfl) (by kernel_rfl) ⟨LoopOK.iter (step := L_w_eqBoolS_1) (N := fun _ => fuel) (fun rec' x => by obtain ⟨⟨a, b, t4, i, ⟨⟩⟩, ⟨⟨⟩⟩⟩ := x; exact rd_L_w_eqBoolS_1 rec' a b t4 i) fun _ => rfl, trivial⟩
theorem ev_w_eqBoolS (a : (List Bool)) (b : (List Bool)) : evalF E_w_eqBoolS (lookL ll_w_eqBoolS) Try.f91 [.ro false (.slice .bool), .ro false (.slice .bool)] (.one false .bool) (a, b, ()) = g_w_eqBoolS a b := by kernel_rfl
def m_w_eqBoolS : FM := { ps := [.ro false (.slice .bool), .ro false (.slice .bool)], res := .one false .bool, run := fun x => g_w_eqBoolS x.1 x.2.1 }
set_option maxRecDepth 4000 in
theorem ok_w_eqBoolS : FmOK Try.prog 91 m_w_eqBoolS := @FmOK.made Try.prog E_w_eqBoolS ek_w_eqBoolS 91 Try.f91 (lookL ll_w_eqBoolS) m_w_eqBoolS Try.func91 (by kernel_rfl) lo_w_eqBoolS fun ds out _ hr => by obtain ⟨a, b, ⟨⟩⟩ := ds; exact (ev_w_eqBoolS a b).trans hr

def E_w_eqFloat32S : Tabs := (mkE tab [(46, m_w_sameFloat)] [])
set_option maxRecDepth 4000 in
theorem ek_w_eqFloat32S : EnvOK Try.prog E_w_eqFloat32S := (mkE_ok tab_ok mixed (AllF.cons ok_w_sameFloat AllF.nil) AllX.nil)
def lm_L_w_eqFloat32S_1 : LM := { mat := [], head := { slots := [(0, .dat false (.slice (.flt .f32))), (1, .dat false (.slice (.flt .f32))), (4, .dat false .bool), (5, .dat false (.int .i64))], blks := [] }, out := { slots := [(4, .dat false .bool)], blks := [] }, ex := 0, rets := true, run := iter L_w_eqFloat32S_1 fuel }
def ll_w_eqFloat32S : List (Nat × LP) := [(4, .lm lm_L_w_eqFloat32S_1)]
theorem rd_L_w_eqFloat32S_1 (rec' : ((List Nat) × (List Nat) × Bool × Int × Unit) × (Unit) → Option (Bool × ((Bool × Unit) × (Unit)))) (a : (List Nat)) (b : (List Nat)) (t4 : Bool) (i : Int) : round E_w_eqFloat32S (lookL ll_w_eqFloat32S) lm_L_w_eqFloat32S_1 29 (loopAt Try.f18 0) rec' ((a, b, t4, i, ()), (())) = L_w_eqFloat32S_1 rec' ((a, b, t4, i, ()), (())) := by kernel_rfl
theorem lo_w_eqFloat32S : Loops E_w_eqFloat32S (lookL ll_w_eqFloat32S) Try.f18 := Loops.list (by kernel_rfl) (by kernel_rfl) ⟨LoopOK.iter (step := L_w_eqFloat32S_1) (N := fun _ => fuel) (fun rec' x => by obtain ⟨⟨a, b, t4, i, ⟨⟩⟩, ⟨⟨⟩⟩⟩ := x; exact rd_L_w_eqFloat32S_1 rec' a b t4 i) fun _ => rfl, trivial⟩
theorem ev_w_eqFloat32S (a : (List Nat)) (b : (List Nat)) : evalF E_w_eqFloat32S (lookL ll_w_eqFloat32S) Try.f18 [.ro false (.slice (.flt .f32)), .ro false (.slice (.flt .f32))] (.one false .bool) (a, b, ()) = g_w_eqFloat32S a b := by kernel_rfl
def m_w_eqFloat32S : FM := { ps := [.ro false (.slice (.flt .f32)), .ro false (.slice (.flt .f32))], res := .one false .bool, run := fun x => g_w_eqFloat32S x.1 x.2.1 }
set_option maxRecDepth 4000 in
theorem ok_w_eqFloat32S : FmOK Try.prog 18 m_w_eqFloat32S := @FmOK.made Try.prog E_w_eqFloat32S ek_w_eqFloat32S 18 Try.f18 (lookL ll_w_eqFloat32S) m_w_eqFloat32S Try.func18 (by kernel_rfl) lo_w_eqFloat32S fun ds out _ hr => by obtain ⟨a, b, ⟨⟩⟩ := ds; exact (ev_w_eqFloat32S a b).trans hr

def E_w_eqString : Tabs := (mkE tab [(24, m_w_eqVectorS), (91, m_w_eqBoolS), (18, m_w_eqFloat32S), (23, m_w_eqVector), (46, m_w_sameFloat)] [])
set_option maxRecDepth 4000 in
theorem ek_w_eqString : EnvOK Try.prog E_w_eqString := (mkE_ok tab_ok mixed (AllF.cons ok_w_eqVectorS (AllF.cons ok_w_eqBoolS (AllF.cons ok_w_eqFloat32S (AllF.cons ok_w_eqVector (AllF.cons ok_w_sameFloat AllF.nil))))) AllX.nil)
theorem ev_w_eqString (a : dString) (b : dString) : evalF E_w_eqString noL Try.f43 [.ro true tString, .ro true tString] (.one false .bool) (a, b, ()) = g_w_eqString a b := by kernel_rfl
def m_w_eqString : FM := { ps := [.ro true tString, .ro true tString], res := .one false .bool, run := fun x => g_w_eqString x.1 x.2.1 }
set_option maxRecDepth 4000 in
theorem ok_w_eqString : FmOK Try.prog 43 m_w_eqString := @FmOK.made Try.prog E_w_eqString ek_w_eqString 43 Try.f43 noL m_w_eqString Try.func43 (by kernel_rfl) (Loops.none (by kernel_rfl)) fun ds out _ hr => by obtain ⟨a, b, ⟨⟩⟩ := ds; exact (ev_w_eqString a b).trans hr

def E_w_markVectorS : Tabs := (mkE tab [] [])
set_option maxRecDepth 4000 in
theorem ek_w_markVectorS : EnvOK Try.prog E_w_markVectorS := (mkE_ok tab_ok mixed AllF.nil AllX.nil)
def lm_L_w_markVectorS_1 : LM := { mat := [], head := { slots := [(0, .cst (.sl (.row 0))), (1, .dat false (.int .i64)), (5, .dat false (.int .i64))], blks := [.row true tVec] }, out := { slots := [(1, .dat false (.int .i64))], blks := [.row true tVec] }, ex := 0, rets := false, run := iter L_w_markVectorS_1 fuel }
def ll_w_markVectorS : List (Nat × LP) := [(2, .lm lm_L_w_markVectorS_1)]
theorem rd_L_w_markVectorS_1 (rec' : (Int × Int × Unit) × ((List dVec) × Unit) → Option ((Int × Unit) × ((List dVec) × Unit))) (k : Int) (i : Int) (r0 : (List dVec)) : round E_w_markVectorS (lookL ll_w_markVectorS) lm_L_w_markVectorS_1 37 (loopAt Try.f65 0) rec' ((k, i, ()), (r0, ())) = L_w_markVectorS_1 rec' ((k, i, ()), (r0, ())) := by kernel_rfl
theorem lo_w_markVectorS : Loops E_w_markVectorS (lookL ll_w_markVectorS) Try.f65 := Loops.list (by kernel_rfl) (by kernel_rfl) ⟨LoopOK.iter (step := L_w_markVectorS_1) (N := fun _ => fuel) (fun rec' x => by obtain ⟨⟨k, i, ⟨⟩⟩, ⟨r0, ⟨⟩⟩⟩ := x; exact rd_L_w_markVectorS_1 rec' k i r0) fun _ => rfl, trivial⟩
theorem ev_w_markVectorS (a : (List dVec)) (k : Int) : evalX E_w_markVectorS (lookL ll_w_markVectorS) Try.f65 [.own false (.slice tVec), .ro false (.int .i64)] (.one false (.int .i64)) (a, k, ()) = g_w_markVectorS a k := by kernel_rfl
def m_w_markVectorS : FX := { ps := [.own false (.slice tVec), .ro false (.int .i64)], res := .one false (.int .i64), run := fun x => g_w_markVectorS x.1 x.2.1 }
set_option maxRecDepth 4000 in
theorem ok_w_markVectorS : FxOK Try.prog 65 m_w_markVectorS := @FxOK.made Try.prog E_w_markVectorS ek_w_markVectorS 65 Try.f65 (lookL ll_w_markVectorS) m_w_markVectorS Try.func65 (by kernel_rfl) lo_w_markVectorS fun ds out _ hr => by obtain ⟨a, k, ⟨⟩⟩ := ds; exact (ev_w_markVectorS a k).trans hr

def E_w_markBoolS : Tabs := (mkE tab [] [])
set_option maxRecDepth 4000 in
theorem ek_w_markBoolS : EnvOK Try.prog E_w_markBoolS := (mkE_ok tab_ok mixed AllF.nil AllX.nil)
def lm_L_w_markBoolS_1 : LM := { mat := [], head := { slots := [(0, .cst (.sl (.row 0))), (1, .dat false (.int .i64)), (5, .dat false (.int .i64))], blks := [.row true .bool] }, out := { slots := [(1, .dat false (.int .i64))], blks := [.row true .bool] }, ex := 0, rets := false, run := iter L_w_markBoolS_1 fuel }
def ll_w_markBoolS : List (Nat × LP) := [(2, .lm lm_L_w_markBoolS_1)]
theorem rd_L_w_markBoolS_1 (rec' : (Int × Int × Unit) × ((List Bool) × Unit) → Option ((Int × Unit) × ((List Bool) × Unit))) (k : Int) (i : Int) (r0 : (List Bool)) : round E_w_markBoolS (lookL ll_w_markBoolS) lm_L_w_markBoolS_1 21 (loopAt Try.f118 0) rec' ((k, i, ()), (r0, ())) = L_w_markBoolS_1 rec' ((k, i, ()), (r0, ())) := by kernel_rfl
theorem lo_w_markBoolS : Loops E_w_markBoolS (lookL ll_w_markBoolS) Try.f118 := Loops.list (by kernel_rfl) (by kernel_rfl) ⟨LoopOK.iter (step := L_w_markBoolS_1) (N := fun _ => fuel) (fun rec' x => by obtain ⟨⟨k, i, ⟨⟩⟩, ⟨r0, ⟨⟩⟩⟩ := x; exact rd_L_w_markBoolS_1 rec' k i r0) fun _ => rfl, trivial⟩
theorem ev_w_markBoolS (a : (List Bool)) (k : Int) : evalX E_w_markBoolS (lookL ll_w_markBoolS) Try.f118 [.own false (.slice .bool), .ro false (.int .i64)] (.one false (.int .i64)) (a, k, ()) = g_w_markBoolS a k := by kernel_rfl
def m_w_markBoolS : FX := { ps := [.own false (.slice .bool), .ro false (.int .i64)], res := .one false (.int .i64), run := fun x => g_w_markBoolS x.1 x.2.1 }
set_option maxRecDepth 4000 in
theorem ok_w_markBoolS : FxOK Try.prog 118 m_w_markBoolS := @FxOK.made Try.prog E_w_markBoolS ek_w_markBoolS 118 Try.f118 (lookL ll_w_markBoolS) m_w_markBoolS Try.func118 (by kernel_rfl) lo_w_markBoolS fun ds out _ hr => by obtain ⟨a, k, ⟨⟩⟩ := ds; exact (ev_w_markBoolS a k).trans hr

def E_w_markFloat32S : Tabs := (mkE tab [] [])
set_option maxRecDepth 4000 in
theorem ek_w_markFloat32S : EnvOK Try.prog E_w_markFloat32S := (mkE_ok tab_ok mixed AllF.nil AllX.nil)
def lm_L_w_markFloat32S_1 : LM := { mat := [], head := { slots := [(0, .cst (.sl (.row 0))), (1, .dat false (.int .i64)), (5, .dat false (.int .i64))], blks := [.row true (.flt .f32)] }, out := { slots := [(1, .dat false (.int .i64))], blks := [.row true (.flt .f32)] }, ex := 0, rets := false, run := iter L_w_markFloat32S_1 fuel }
def ll_w_markFloat32S : List (Nat × LP) := [(2, .lm lm_L_w_markFloat32S_1)]
theorem rd_L_w_markFloat32S_1 (rec' : (Int × Int × Unit) × ((List Nat) × Unit) → Option ((Int × Unit) × ((List Nat) × Unit))) (k : Int) (i : Int) (r0 : (List Nat)) : round E_w_markFloat32S (lookL ll_w_markFloat32S) lm_L_w_markFloat32S_1 20 (loopAt Try.f32 0) rec' ((k, i, ()), (r0, ())) = L_w_markFloat32S_1 rec' ((k, i, ()), (r0, ())) := by kernel_rfl
theorem lo_w_markFloat32S : Loops E_w_markFloat32S (lookL ll_w_markFloat32S) Try.f32 := Loops.list (by kernel_rfl) (by kernel_rfl) ⟨LoopOK.iter (step := L_w_markFloat32S_1) (N := fun _ => fuel) (fun rec' x => by obtain ⟨⟨k, i, ⟨⟩⟩, ⟨r0, ⟨⟩⟩⟩ := x; exact rd_L_w_markFloat32S_1 rec' k i r0) fun _ => rfl, trivial⟩
theorem ev_w_markFloat32S (a : (List Nat)) (k : Int) : evalX E_w_markFloat32S (lookL ll_w_markFloat32S) Try.f32 [.own false (.slice (.flt .f32)), .ro false (.int .i64)] (.one false (.int .i64)) (a, k, ()) = g_w_markFloat32S a k := by kernel_rfl
def m_w_markFloat32S : FX := { ps := [.own false (.slice (.flt .f32)), .ro false (.int .i64)], res := .one false (.int .i64), run := fun x => g_w_markFloat32S x.1 x.2.1 }
set_option maxRecDepth 4000 in
theorem ok_w_markFloat32S : FxOK Try.prog 32 m_w_markFloat32S := @FxOK.made Try.prog E_w_markFloat32S ek_w_markFloat32S 32 Try.f32 (lookL ll_w_markFloat32S) m_w_markFloat32S Try.func32 (by kernel_rfl) lo_w_markFloat32S fun ds out _ hr => by obtain ⟨a, k, ⟨⟩⟩ := ds; exact (ev_w_markFloat32S a k).trans hr

def E_w_markString : Tabs := (mkE tab [] [(65, m_w_markVectorS), (118, m_w_markBoolS), (32, m_w_markFloat32S)])
set_option maxRecDepth 4000 in
theorem ek_w_markString : EnvOK Try.prog E_w_markString := (mkE_ok tab_ok mixed AllF.nil (AllX.cons ok_w_markVectorS (AllX.cons ok_w_markBoolS (AllX.cons ok_w_markFloat32S AllX.nil))))
theorem ev_w_markString (a : dString) (k : Int) : evalX E_w_markString noL Try.f69 [.own true tString, .ro false (.int .i64)] (.one false (.int .i64)) (a, k, ()) = g_w_markString a k := by kernel_rfl
def m_w_markString : FX := { ps := [.own true tString, .ro false (.int .i64)], res := .one false (.int .i64), run := fun x => g_w_markString x.1 x.2.1 }
set_option maxRecDepth 4000 in
theorem ok_w_markString : FxOK Try.prog 69 m_w_markString := @FxOK.made Try.prog E_w_markString ek_w_markString 69 Try.f69 noL m_w_markString Try.func69 (by kernel_rfl) (Loops.none (by kernel_rfl)) fun ds out _ hr => by obtain ⟨a, k, ⟨⟩⟩ := ds; exact (ev_w_markString a k).trans hr

def E_w_heldVectorS : Tabs := (mkE tab [] [])
set_option maxRecDepth 4000 in
theorem ek_w_heldVectorS : EnvOK Try.prog E_w_heldVectorS := (mkE_ok tab_ok mixed AllF.nil AllX.nil)
def lm_L_w_heldVectorS_1 : LM := { mat := [], head := { slots := [(0, .dat false (.slice tVec)), (1, .dat false (.int .i64)), (4, .dat false (.int .i64)), (5, .dat false (.int .i64))], blks := [] }, out := { slots := [(1, .dat false (.int .i64)), (4, .dat false (.int .i64))], blks := [] }, ex := 0, rets := true, run := iter L_w_heldVectorS_1 fuel }
def ll_w_heldVectorS : List (Nat × LP) := [(2, .lm lm_L_w_heldVectorS_1)]
theorem rd_L_w_heldVectorS_1 (rec' : ((List dVec) × Int × Int × Int × Unit) × (Unit) → Option (Bool × ((Int × Int × Unit) × (Unit)))) (a : (List dVec)) (k : Int) (t4 : Int) (i : Int) : round E_w_heldVectorS (lookL ll_w_heldVectorS) lm_L_w_heldVectorS_1 43 (loopAt Try.f119 0) rec' ((a, k, t4, i, ()), (())) = L_w_heldVectorS_1 rec' ((a, k, t4, i, ()), (())) := by kernel_rfl
theorem lo_w_heldVectorS : Loops E_w_heldVectorS (lookL ll_w_heldVectorS) Try.f119 := Loops.list (by kernel_rfl) (by kernel_rfl) ⟨LoopOK.iter (step := L_w_heldVectorS_1) (N := fun _ => fuel) (fun rec' x => by obtain ⟨⟨a, k, t4, i, ⟨⟩⟩, ⟨⟨⟩⟩⟩ := x; exact rd_L_w_heldVectorS_1 rec' a k t4 i) fun _ => rfl, trivial⟩
theorem ev_w_heldVectorS (a : (List dVec)) (k : Int) : evalF E_w_heldVectorS (lookL ll_w_heldVectorS) Try.f119 [.ro false (.slice tVec), .ro false (.int .i64)] (.one false (.int .i64)) (a, k, ()) = g_w_heldVectorS a k := by kernel_rfl
def m_w_heldVectorS : FM := { ps := [.ro false (.slice tVec), .ro false (.int .i64)], res := .one false (.int .i64), run := fun x => g_w_heldVectorS x.1 x.2.1 }
set_option maxRecDepth 4000 in
theorem ok_w_heldVectorS : FmOK Try.prog 119 m_w_heldVectorS := @FmOK.made Try.prog E_w_heldVectorS ek_w_heldVectorS 119 Try.f119 (lookL ll_w_heldVectorS) m_w_heldVectorS Try.func119 (by kernel_rfl) lo_w_heldVectorS fun ds out _ hr => by obtain ⟨a, k, ⟨⟩⟩ := ds; exact (ev_w_heldVectorS a k).trans hr

def E_w_heldBoolS : Tabs := (mkE tab [] [])
set_option maxRecDepth 4000 in
theorem ek_w_heldBoolS : EnvOK Try.prog E_w_heldBoolS := (mkE_ok tab_ok mixed AllF.nil AllX.nil)
def lm_L_w_heldBoolS_1 : LM := { mat := [], head := { slots := [(0, .dat false (.slice .bool)), (1, .dat false (.int .i64)), (4, .dat false (.int .i64)), (5, .dat false (.int .i64))], blks := [] }, out := { slots := [(1, .dat false (.int .i64)), (4, .dat false (.int .i64))], blks := [] }, ex := 0, rets := true, run := iter L_w_heldBoolS_1 fuel }
def ll_w_heldBoolS : List (Nat × LP) := [(2, .lm lm_L_w_heldBoolS_1)]
theorem rd_L_w_heldBoolS_1 (rec' : ((List Bool) × Int × Int × Int × Unit) × (Unit) → Option (Bool × ((Int × Int × Unit) × (Unit)))) (a : (List Bool)) (k : Int) (t4 : Int) (i : Int) : round E_w_heldBoolS (lookL ll_w_heldBoolS) lm_L_w_heldBoolS_1 23 (loopAt Try.f120 0) rec' ((a, k, t4, i, ()), (())) = L_w_heldBoolS_1 rec' ((a, k, t4, i, ()), (())) := by kernel_rfl
theorem lo_w_heldBoolS : Loops E_w_heldBoolS (lookL ll_w_heldBoolS) Try.f120 := Loops.list (by kernel_rfl) (by kernel_rfl) ⟨LoopOK.iter (step := L_w_heldBoolS_1) (N := fun _ => fuel) (fun rec' x => by obtain ⟨⟨a, k, t4, i, ⟨⟩⟩, ⟨⟨⟩⟩⟩ := x; exact rd_L_w_heldBoolS_1 rec' a k t4 i) fun _ => rfl, trivial⟩
theorem ev_w_heldBoolS (a : (List Bool)) (k : Int) : evalF E_w_heldBoolS (lookL ll_w_heldBoolS) Try.f120 [.ro false (.slice .bool), .ro false (.int .i64)] (.one false (.int .i64)) (a, k, ()) = g_w_heldBoolS a k := by kernel_rfl
def m_w_heldBoolS : FM := { ps := [.ro false (.slice .bool), .ro false (.int .i64)], res := .one false (.int .i64), run := fun x => g_w_heldBoolS x.1 x.2.1 }
set_option maxRecDepth 4000 in
theorem ok_w_heldBoolS : FmOK Try.prog 120 m_w_heldBoolS := @FmOK.made Try.prog E_w_heldBoolS ek_w_heldBoolS 120 Try.f120 (lookL ll_w_heldBoolS) m_w_heldBoolS Try.func120 (by kernel_rfl) lo_w_heldBoolS fun ds out _ hr => by obtain ⟨a, k, ⟨⟩⟩ := ds; exact (ev_w_heldBoolS a k).trans hr

def E_w_heldFloat32S : Tabs := (mkE tab [] [])
set_option maxRecDepth 4000 in
theorem ek_w_heldFloat32S : EnvOK Try.prog E_w_heldFloat32S := (mkE_ok tab_ok mixed AllF.nil AllX.nil)
def lm_L_w_heldFloat32S_1 : LM := { mat := [], head := { slots := [(0, .dat false (.slice (.flt .f32))), (1, .dat false (.int .i64)), (4, .dat false (.int .i64)), (5, .dat false (.int .i64))], blks := [] }, out := { slots := [(1, .dat false (.int .i64)), (4, .dat false (.int .i64))], blks := [] }, ex := 0, rets := true, run := iter L_w_heldFloat32S_1 fuel }
def ll_w_heldFloat32S : List (Nat × LP) := [(2, .lm lm_L_w_heldFloat32S_1)]
theorem rd_L_w_heldFloat32S_1 (rec' : ((List Nat) × Int × Int × Int × Unit) × (Unit) → Option (Bool × ((Int × Int × Unit) × (Unit)))) (a : (List Nat)) (k : Int) (t4 : Int) (i : Int) : round E_w_heldFloat32S (lookL ll_w_heldFloat32S) lm_L_w_heldFloat32S_1 22 (loopAt Try.f33 0) rec' ((a, k, t4, i, ()), (())) = L_w_heldFloat32S_1 rec' ((a, k, t4, i, ()), (())) := by kernel_rfl
theorem lo_w_heldFloat32S : Loops E_w_heldFloat32S (lookL ll_w_heldFloat32S) Try.f33 := Loops.list (by kernel_rfl) (by kernel_rfl) ⟨LoopOK.iter (step := L_w_heldFloat32S_1) (N := fun _ => fuel) (fun rec' x => by obtain ⟨⟨a, k, t4, i, ⟨⟩⟩, ⟨⟨⟩⟩⟩ := x; exact rd_L_w_heldFloat32S_1 rec' a k t4 i) fun _ => rfl, trivial⟩
theorem ev_w_heldFloat32S (a : (List Nat)) (k : Int) : evalF E_w_heldFloat32S (lookL ll_w_heldFloat32S) Try.f33 [.ro false (.slice (.flt .f32)), .ro false (.int .i64)] (.one false (.int .i64)) (a, k, ()) = g_w_heldFloat32S a k := by kernel_rfl
def m_w_heldFloat32S : FM := { ps := [.ro false (.slice (.flt .f32)), .ro false (.int .i64)], res := .one false (.int .i64), run := fun x => g_w_heldFloat32S x.1 x.2.1 }
set_option maxRecDepth 4000 in
theorem ok_w_heldFloat32S : FmOK Try.prog 33 m_w_heldFloat32S := @FmOK.made Try.prog E_w_heldFloat32S ek_w_heldFloat32S 33 Try.f33 (lookL ll_w_heldFloat32S) m_w_heldFloat32S Try.func33 (by kernel_rfl) lo_w_heldFloat32S fun ds out _ hr => by obtain ⟨a, k, ⟨⟩⟩ := ds; exact (ev_w_heldFloat32S a k).trans hr

def E_w_heldString : Tabs := (mkE tab [(119, m_w_heldVectorS), (120, m_w_heldBoolS), (33, m_w_heldFloat32S)] [])
set_option maxRecDepth 4000 in
theorem ek_w_heldString : EnvOK Try.prog E_w_heldString := (mkE_ok tab_ok mixed (AllF.cons ok_w_heldVectorS (AllF.cons ok_w_heldBoolS (AllF.cons ok_w_heldFloat32S AllF.nil))) AllX.nil)
theorem ev_w_heldString (a : dString) (k : Int) : evalF E_w_heldString noL Try.f70 [.ro true tString, .ro false (.int .i64)] (.one false (.int .i64)) (a, k, ()) = g_w_heldString a k := by kernel_rfl
def m_w_heldString : FM := { ps := [.ro true tString, .ro false (.int .i64)], res := .one false (.int .i64), run := fun x => g_w_heldString x.1 x.2.1 }
set_option maxRecDepth 4000 in
theorem ok_w_heldString : FmOK Try.prog 70 m_w_heldString := @FmOK.made Try.prog E_w_heldString ek_w_heldString 70 Try.f70 noL m_w_heldString Try.func70 (by kernel_rfl) (Loops.none (by kernel_rfl)) fun ds out _ hr => by obtain ⟨a, k, ⟨⟩⟩ := ds; exact (ev_w_heldString a k).trans hr

def E_w_FnExactHangString : Tabs := (mkE tab [(67, m_w_toVector), (66, m_s_HangString), (68, m_i_HangString), (43, m_w_eqString), (70, m_w_heldString)] [(69, m_w_markString)])
set_option maxRecDepth 4000 in
theorem ek_w_FnExactHangString : EnvOK Try.prog E_w_FnExactHangString := (mkE_ok tab_ok mixed (AllF.cons ok_w_toVector (AllF.cons ok_s_HangString (AllF.cons ok_i_HangString (AllF.cons ok_w_eqString (AllF.cons ok_w_heldString AllF.nil))))) (AllX.cons ok_w_markString AllX.nil))
theorem ev_w_FnExactHangString (aFrom : dVec) (aCount : Int) (aLength : Nat) : evalF E_w_FnExactHangString noL Try.f14 [.ro true tVec, .ro false (.int .i64), .ro false (.flt .f32)] (.one false .bool) (aFrom, aCount, aLength, ()) = g_w_FnExactHangString aFrom aCount aLength := by kernel_rfl
end
end Go.Fw.A
