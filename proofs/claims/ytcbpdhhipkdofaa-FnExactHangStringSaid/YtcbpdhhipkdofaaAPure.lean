/- What the functions compute, as plain Lean functions. No condition. -/
import Derived.Test.YtcbpdhhipkdofaaGenTypes
set_option linter.unusedVariables false
namespace Go.Fw
noncomputable section
def g_w_sameFloat (a : Nat) (b : Nat) : Option (Bool) :=
  bif (!(feq .f64 a a)) then
    bif (!(feq .f64 a a)) then
      some (!(feq .f64 b b))
    else
      some false
  else
    bif (!(feq .f64 b b)) then
      bif (!(feq .f64 a a)) then
        some (!(feq .f64 b b))
      else
        some false
    else
      bif (feq .f64 a 0) then
        bif (feq .f64 b 0) then
          some ((fgt .f64 (fdiv .f64 4607182418800017408 a) 0) == (fgt .f64 (fdiv .f64 4607182418800017408 b) 0))
        else
          some (feq .f64 a b)
      else
        some (feq .f64 a b)

def t_w_sameFloat (a : Nat) (b : Nat) : Bool :=
  bif (!(feq .f64 a a)) then
    bif (!(feq .f64 a a)) then
      (!(feq .f64 b b))
    else
      false
  else
    bif (!(feq .f64 b b)) then
      bif (!(feq .f64 a a)) then
        (!(feq .f64 b b))
      else
        false
    else
      bif (feq .f64 a 0) then
        bif (feq .f64 b 0) then
          ((fgt .f64 (fdiv .f64 4607182418800017408 a) 0) == (fgt .f64 (fdiv .f64 4607182418800017408 b) 0))
        else
          (feq .f64 a b)
      else
        (feq .f64 a b)

theorem q_w_sameFloat (a : Nat) (b : Nat) : g_w_sameFloat a b = some (t_w_sameFloat a b) := by
  unfold g_w_sameFloat t_w_sameFloat; simp only [bif_some_some]


def L_w_eqFloat32S_1 (rec' : ((List Nat) × (List Nat) × Bool × Int × Unit) × (Unit) → Option (Bool × ((Bool × Unit) × (Unit)))) (x : ((List Nat) × (List Nat) × Bool × Int × Unit) × (Unit)) : Option (Bool × ((Bool × Unit) × (Unit))) := match x with
  | ((a, b, t4, i, ()), (())) =>
    bif (ilt i (((List.length a) : Nat) : Int)) then
      Option.bind (ix i (List.length a)) fun j1 =>
      Option.bind (ix i (List.length b)) fun j2 =>
      bif (!(t_w_sameFloat (fwide (List.getD a j1 (0 : Nat))) (fwide (List.getD b j2 (0 : Nat))))) then
        some (true, ((false, ()), ()))
      else
        rec' ((a, (b, (t4, ((iadd .i64 i 1), ())))), ())
    else
      some (false, ((t4, ()), ()))

def g_w_eqFloat32S (a : (List Nat)) (b : (List Nat)) : Option (Bool) :=
  bif (!(ieq (((List.length a) : Nat) : Int) (((List.length b) : Nat) : Int))) then
    some false
  else
    Option.bind (iter L_w_eqFloat32S_1 fuel ((a, (b, (false, (0, ())))), ())) fun y1 =>
    bif y1.1 then
      some y1.2.1.1
    else
      some true


def g_w_toVector (a : dVec) : Option (dVec) :=
  some a

def t_w_toVector (a : dVec) : dVec :=
  a

theorem q_w_toVector (a : dVec) : g_w_toVector a = some (t_w_toVector a) := rfl


def g_w_eqVector (a : dVec) (b : dVec) : Option (Bool) :=
  bif (!(t_w_sameFloat (fwide a.1) (fwide b.1))) then
    some false
  else
    bif (!(t_w_sameFloat (fwide a.2.1) (fwide b.2.1))) then
      some false
    else
      bif (!(t_w_sameFloat (fwide a.2.2.1) (fwide b.2.2.1))) then
        some false
      else
        some true

def t_w_eqVector (a : dVec) (b : dVec) : Bool :=
  bif (!(t_w_sameFloat (fwide a.1) (fwide b.1))) then
    false
  else
    bif (!(t_w_sameFloat (fwide a.2.1) (fwide b.2.1))) then
      false
    else
      bif (!(t_w_sameFloat (fwide a.2.2.1) (fwide b.2.2.1))) then
        false
      else
        true

theorem q_w_eqVector (a : dVec) (b : dVec) : g_w_eqVector a b = some (t_w_eqVector a b) := by
  unfold g_w_eqVector t_w_eqVector; simp only [bif_some_some]


def L_w_eqVectorS_1 (rec' : ((List dVec) × (List dVec) × Bool × Int × Unit) × (Unit) → Option (Bool × ((Bool × Unit) × (Unit)))) (x : ((List dVec) × (List dVec) × Bool × Int × Unit) × (Unit)) : Option (Bool × ((Bool × Unit) × (Unit))) := match x with
  | ((a, b, t4, i, ()), (())) =>
    bif (ilt i (((List.length a) : Nat) : Int)) then
      Option.bind (ix i (List.length a)) fun j1 =>
      Option.bind (ix i (List.length b)) fun j2 =>
      bif (!(t_w_eqVector (List.getD a j1 zVec) (List.getD b j2 zVec))) then
        some (true, ((false, ()), ()))
      else
        rec' ((a, (b, (t4, ((iadd .i64 i 1), ())))), ())
    else
      some (false, ((t4, ()), ()))

def g_w_eqVectorS (a : (List dVec)) (b : (List dVec)) : Option (Bool) :=
  bif (!(ieq (((List.length a) : Nat) : Int) (((List.length b) : Nat) : Int))) then
    some false
  else
    Option.bind (iter L_w_eqVectorS_1 fuel ((a, (b, (false, (0, ())))), ())) fun y1 =>
    bif y1.1 then
      some y1.2.1.1
    else
      some true


def g_s_l00In (n : Int) (low : Int) (high : Int) : Option (Bool) :=
  bif (ile low n) then
    some (ile n high)
  else
    some false

def t_s_l00In (n : Int) (low : Int) (high : Int) : Bool :=
  bif (ile low n) then
    (ile n high)
  else
    false

theorem q_s_l00In (n : Int) (low : Int) (high : Int) : g_s_l00In n low high = some (t_s_l00In n low high) := by
  unfold g_s_l00In t_s_l00In; simp only [bif_some_some]


def L_w_markFloat32S_1 (rec' : (Int × Int × Unit) × ((List Nat) × Unit) → Option ((Int × Unit) × ((List Nat) × Unit))) (x : (Int × Int × Unit) × ((List Nat) × Unit)) : Option ((Int × Unit) × ((List Nat) × Unit)) := match x with
  | ((k, i, ()), (r0, ())) =>
    bif (ilt i (((List.length r0) : Nat) : Int)) then
      Option.bind (ix i (List.length r0)) fun j1 =>
      rec' (((iadd .i64 k 1), ((iadd .i64 i 1), ())), ((List.set r0 j1 (fofInt .f32 k)), ()))
    else
      some ((k, ()), (r0, ()))

def g_w_markFloat32S (a : (List Nat)) (k : Int) : Option (Int × ((List Nat) × Int × Unit)) :=
  Option.bind (iter L_w_markFloat32S_1 fuel ((k, (0, ())), (a, ()))) fun y1 =>
  some (y1.1.1, (y1.2.1, (k, ())))


def L_w_heldFloat32S_1 (rec' : ((List Nat) × Int × Int × Int × Unit) × (Unit) → Option (Bool × ((Int × Int × Unit) × (Unit)))) (x : ((List Nat) × Int × Int × Int × Unit) × (Unit)) : Option (Bool × ((Int × Int × Unit) × (Unit))) := match x with
  | ((a, k, t4, i, ()), (())) =>
    bif (ilt i (((List.length a) : Nat) : Int)) then
      Option.bind (ix i (List.length a)) fun j1 =>
      bif (!(feq .f32 (List.getD a j1 (0 : Nat)) (fofInt .f32 k))) then
        some (true, ((k, ((-1), ())), ()))
      else
        rec' ((a, ((iadd .i64 k 1), (t4, ((iadd .i64 i 1), ())))), ())
    else
      some (false, ((k, (t4, ())), ()))

def g_w_heldFloat32S (a : (List Nat)) (k : Int) : Option (Int) :=
  Option.bind (iter L_w_heldFloat32S_1 fuel ((a, (k, (0, (0, ())))), ())) fun y1 =>
  bif y1.1 then
    some y1.2.1.2.1
  else
    some y1.2.1.1


def L_w_eqBoolS_1 (rec' : ((List Bool) × (List Bool) × Bool × Int × Unit) × (Unit) → Option (Bool × ((Bool × Unit) × (Unit)))) (x : ((List Bool) × (List Bool) × Bool × Int × Unit) × (Unit)) : Option (Bool × ((Bool × Unit) × (Unit))) := match x with
  | ((a, b, t4, i, ()), (())) =>
    bif (ilt i (((List.length a) : Nat) : Int)) then
      Option.bind (ix i (List.length a)) fun j1 =>
      Option.bind (ix i (List.length b)) fun j2 =>
      bif (!((List.getD a j1 false) == (List.getD b j2 false))) then
        some (true, ((false, ()), ()))
      else
        rec' ((a, (b, (t4, ((iadd .i64 i 1), ())))), ())
    else
      some (false, ((t4, ()), ()))

def g_w_eqBoolS (a : (List Bool)) (b : (List Bool)) : Option (Bool) :=
  bif (!(ieq (((List.length a) : Nat) : Int) (((List.length b) : Nat) : Int))) then
    some false
  else
    Option.bind (iter L_w_eqBoolS_1 fuel ((a, (b, (false, (0, ())))), ())) fun y1 =>
    bif y1.1 then
      some y1.2.1.1
    else
      some true


def g_w_eqString (a : dString) (b : dString) : Option (Bool) :=
  Option.bind (g_w_eqVectorS a.1 b.1) fun y1 =>
  bif (!y1) then
    some false
  else
    Option.bind (g_w_eqVectorS a.2.1 b.2.1) fun y2 =>
    bif (!y2) then
      some false
    else
      Option.bind (g_w_eqBoolS a.2.2.1 b.2.2.1) fun y3 =>
      bif (!y3) then
        some false
      else
        Option.bind (g_w_eqFloat32S a.2.2.2.1 b.2.2.2.1) fun y4 =>
        bif (!y4) then
          some false
        else
          bif (!(t_w_eqVector a.2.2.2.2.1 b.2.2.2.2.1)) then
            some false
          else
            bif (!(t_w_sameFloat (fwide a.2.2.2.2.2.1) (fwide b.2.2.2.2.2.1))) then
              some false
            else
              bif (!(ieq a.2.2.2.2.2.2.1 b.2.2.2.2.2.2.1)) then
                some false
              else
                some true


def L_w_markVectorS_1 (rec' : (Int × Int × Unit) × ((List dVec) × Unit) → Option ((Int × Unit) × ((List dVec) × Unit))) (x : (Int × Int × Unit) × ((List dVec) × Unit)) : Option ((Int × Unit) × ((List dVec) × Unit)) := match x with
  | ((k, i, ()), (r0, ())) =>
    bif (ilt i (((List.length r0) : Nat) : Int)) then
      Option.bind (ix i (List.length r0)) fun j1 =>
      let e2 := (List.set r0 j1 ((fofInt .f32 k), (List.getD r0 j1 zVec).2))
      Option.bind (ix i (List.length e2)) fun j3 =>
      let e4 := (List.getD e2 j3 zVec)
      let e5 := (List.set e2 j3 (e4.1, ((fofInt .f32 (iadd .i64 k 1)), e4.2.2)))
      Option.bind (ix i (List.length e5)) fun j6 =>
      let e7 := (List.getD e5 j6 zVec)
      rec' (((iadd .i64 (iadd .i64 (iadd .i64 k 1) 1) 1), ((iadd .i64 i 1), ())), ((List.set e5 j6 (e7.1, (e7.2.1, ((fofInt .f32 (iadd .i64 (iadd .i64 k 1) 1)), ())))), ()))
    else
      some ((k, ()), (r0, ()))

def g_w_markVectorS (a : (List dVec)) (k : Int) : Option (Int × ((List dVec) × Int × Unit)) :=
  Option.bind (iter L_w_markVectorS_1 fuel ((k, (0, ())), (a, ()))) fun y1 =>
  some (y1.1.1, (y1.2.1, (k, ())))


def L_s_HangString_1 (rec' : (Int × Nat × Int × Unit) × ((dVec × Unit) × ((dVec × (Nat × (Int × Unit))) × Unit) × (List dVec) × (List Bool) × (List Nat) × ((dVec × (Nat × (Int × Unit))) × Unit) × Unit) → Option ((Unit) × (((dVec × (Nat × (Int × Unit))) × Unit) × (List dVec) × (List Bool) × (List Nat) × ((dVec × (Nat × (Int × Unit))) × Unit) × Unit))) (x : (Int × Nat × Int × Unit) × ((dVec × Unit) × ((dVec × (Nat × (Int × Unit))) × Unit) × (List dVec) × (List Bool) × (List Nat) × ((dVec × (Nat × (Int × Unit))) × Unit) × Unit)) : Option ((Unit) × (((dVec × (Nat × (Int × Unit))) × Unit) × (List dVec) × (List Bool) × (List Nat) × ((dVec × (Nat × (Int × Unit))) × Unit) × Unit)) := match x with
  | ((count, length, i, ()), ((b0, ()), (b1, ()), r2, r3, r4, (b5, ()), ())) =>
    let e1 := (b0.1, ((fsub .f32 b0.2.1 length), b0.2.2))
    bif (ilt i count) then
      bif (Nat.ble ((List.length r2) + 1) 4294967296) then
        bif (Nat.ble ((List.length r3) + 1) 4294967296) then
          bif (Nat.ble ((List.length r4) + 1) 4294967296) then
            rec' ((count, (length, ((iadd .i64 i 1), ()))), ((e1, ()), ((b1, ()), ((r2 ++ [e1]), ((r3 ++ [false]), ((r4 ++ [length]), ((b5, ()), ())))))))
          else
            none
        else
          none
      else
        none
    else
      some ((), ((b1, ()), (r2, (r3, (r4, ((b5, ()), ()))))))

def g_s_HangString (fromx : dVec) (count : Int) (length : Nat) : Option ((dString × (Bool × Unit))) :=
  let e1 := ((0, (0, (0, ()))), (0, (0, ())))
  bif (!(t_s_l00In count 2 16)) then
    some ((([] : List dVec), (([] : List dVec), (([] : List Bool), (([] : List Nat), e1)))), (false, ()))
  else
    Option.bind (iter L_s_HangString_1 fuel ((count, (length, (1, ()))), ((fromx, ()), ((e1, ()), ([fromx], ([true], ([], ((((0, (0, (0, ()))), (1065353216, (4, ()))), ()), ())))))))) fun y2 =>
    bif (Nat.ble (0 + (List.length y2.2.2.1)) 4294967296) then
      some ((y2.2.2.1, (([] ++ y2.2.2.1), (y2.2.2.2.1, (y2.2.2.2.2.1, y2.2.2.2.2.2.1.1)))), (true, ()))
    else
      none


def g_math_bits_Mul64 (xx : Int) (y : Int) : Option ((Int × (Int × Unit))) :=
  let e1 := (iadd .u64 (imul .u64 (ishr .u64 xx 32) (iand .u64 y 4294967295)) (ishr .u64 (imul .u64 (iand .u64 xx 4294967295) (iand .u64 y 4294967295)) 32))
  some ((iadd .u64 (iadd .u64 (imul .u64 (ishr .u64 xx 32) (ishr .u64 y 32)) (ishr .u64 e1 32)) (ishr .u64 (iadd .u64 (iand .u64 e1 4294967295) (imul .u64 (iand .u64 xx 4294967295) (ishr .u64 y 32))) 32)), ((imul .u64 xx y), ()))

def t_math_bits_Mul64 (xx : Int) (y : Int) : (Int × (Int × Unit)) :=
  let e1 := (iadd .u64 (imul .u64 (ishr .u64 xx 32) (iand .u64 y 4294967295)) (ishr .u64 (imul .u64 (iand .u64 xx 4294967295) (iand .u64 y 4294967295)) 32))
  ((iadd .u64 (iadd .u64 (imul .u64 (ishr .u64 xx 32) (ishr .u64 y 32)) (ishr .u64 e1 32)) (ishr .u64 (iadd .u64 (iand .u64 e1 4294967295) (imul .u64 (iand .u64 xx 4294967295) (ishr .u64 y 32))) 32)), ((imul .u64 xx y), ()))

theorem q_math_bits_Mul64 (xx : Int) (y : Int) : g_math_bits_Mul64 xx y = some (t_math_bits_Mul64 xx y) := rfl


def g_math_bits_Mul (xx : Int) (y : Int) : Option ((Int × (Int × Unit))) :=
  some (t_math_bits_Mul64 xx y)

def t_math_bits_Mul (xx : Int) (y : Int) : (Int × (Int × Unit)) :=
  (t_math_bits_Mul64 xx y)

theorem q_math_bits_Mul (xx : Int) (y : Int) : g_math_bits_Mul xx y = some (t_math_bits_Mul xx y) := rfl


def L_slices_Repeat_float32_float32_1 (rec' : (Int × Unit) × ((List Nat) × Unit) → Option ((Unit) × ((List Nat) × Unit))) (x : (Int × Unit) × ((List Nat) × Unit)) : Option ((Unit) × ((List Nat) × Unit)) := match x with
  | ((n, ()), (r0, ())) =>
    let e1 := ((decide ((0 : Int) ≤ n)) && (decide ((n : Int) ≤ (((List.length r0) : Nat) : Int))))
    let e2 := (List.take ((List.length r0) - (Int.toNat n)) (List.take (Int.toNat n) (List.drop 0 r0)))
    bif (ilt n (((List.length r0) : Nat) : Int)) then
      bif e1 then
        bif e1 then
          rec' (((iadd .i64 n (((List.length e2) : Nat) : Int)), ()), ((putL r0 (Int.toNat n) e2), ()))
        else
          none
      else
        none
    else
      some ((), (r0, ()))

def g_slices_Repeat_float32_float32 (xx : (List Nat)) (count : Int) : Option ((List Nat)) :=
  let e1 := (iconv .i64 (t_math_bits_Mul (iconv .u64 (((List.length xx) : Nat) : Int)) (iconv .u64 count)).2.1)
  let e2 := (List.replicate (Int.toNat e1) 0)
  let e3 := (List.take (List.length e2) xx)
  bif (ilt count 0) then
    none
  else
    bif (ilt 0 (t_math_bits_Mul (iconv .u64 (((List.length xx) : Nat) : Int)) (iconv .u64 count)).1) then
      none
    else
      bif (ilt 9223372036854775807 (t_math_bits_Mul (iconv .u64 (((List.length xx) : Nat) : Int)) (iconv .u64 count)).2.1) then
        none
      else
        bif (mkOk e1 e1) then
          Option.bind (iter L_slices_Repeat_float32_float32_1 fuel (((((List.length e3) : Nat) : Int), ()), ((putL e2 0 e3), ()))) fun y4 =>
          some y4.2.1
        else
          none


def g_slices_Clone_i_Vector_i_Vector (s : (List dVec)) : Option ((List dVec)) :=
  bif (Nat.beq (List.length s) 0) then
    bothSame (
      some ([] : List dVec)
    ) (
      bif (Nat.ble (0 + (List.length s)) 4294967296) then
        some ([] ++ s)
      else
        none
    )
  else
    bif (Nat.ble (0 + (List.length s)) 4294967296) then
      some ([] ++ s)
    else
      none


def L_i_HangString_1 (rec' : (Nat × Int × Int × Unit) × ((dVec × Unit) × ((dVec × (Nat × (Int × Unit))) × Unit) × (List Bool) × (List Nat) × ((dVec × (Nat × (Int × Unit))) × Unit) × (List dVec) × Unit) → Option ((Unit) × (((dVec × (Nat × (Int × Unit))) × Unit) × (List Bool) × (List Nat) × ((dVec × (Nat × (Int × Unit))) × Unit) × (List dVec) × Unit))) (x : (Nat × Int × Int × Unit) × ((dVec × Unit) × ((dVec × (Nat × (Int × Unit))) × Unit) × (List Bool) × (List Nat) × ((dVec × (Nat × (Int × Unit))) × Unit) × (List dVec) × Unit)) : Option ((Unit) × (((dVec × (Nat × (Int × Unit))) × Unit) × (List Bool) × (List Nat) × ((dVec × (Nat × (Int × Unit))) × Unit) × (List dVec) × Unit)) := match x with
  | ((length, t27, t28, ()), ((b0, ()), (b1, ()), r2, r4, (b5, ()), r6, ())) =>
    bif (ilt t28 t27) then
      bif (Nat.ble ((List.length r6) + 1) 4294967296) then
        rec' ((length, (t27, ((iadd .i64 t28 1), ()))), (((b0.1, ((fsub .f32 b0.2.1 length), b0.2.2)), ()), ((b1, ()), (r2, (r4, ((b5, ()), ((r6 ++ [b0]), ())))))))
      else
        none
    else
      some ((), ((b1, ()), (r2, (r4, ((b5, ()), (r6, ()))))))

def g_i_HangString (fromx : dVec) (count : Int) (length : Nat) : Option ((dString × (Bool × Unit))) :=
  let e1 := ((0, (0, (0, ()))), (0, (0, ())))
  let e2 := ((([] : List dVec), (([] : List dVec), (([] : List Bool), (([] : List Nat), e1)))), (false, ()))
  bif (ilt count 2) then
    some e2
  else
    bif (ilt 16 count) then
      some e2
    else
      bif (mkOk count count) then
        Option.bind (g_slices_Repeat_float32_float32 [length] (isub .i64 count 1)) fun y3 =>
        Option.bind (ix 0 (List.length (List.replicate (Int.toNat count) false))) fun j4 =>
        Option.bind (iter L_i_HangString_1 fuel ((length, (count, (0, ()))), ((fromx, ()), ((e1, ()), ((List.set (List.replicate (Int.toNat count) false) j4 true), (y3, ((((0, (0, (0, ()))), (1065353216, (4, ()))), ()), (([] : List dVec), ())))))))) fun y5 =>
        Option.bind (g_slices_Clone_i_Vector_i_Vector y5.2.2.2.2.2.1) fun y6 =>
        some ((y5.2.2.2.2.2.1, (y6, (y5.2.2.1, (y5.2.2.2.1, y5.2.2.2.2.1.1)))), (true, ()))
      else
        none


def L_w_markBoolS_1 (rec' : (Int × Int × Unit) × ((List Bool) × Unit) → Option ((Int × Unit) × ((List Bool) × Unit))) (x : (Int × Int × Unit) × ((List Bool) × Unit)) : Option ((Int × Unit) × ((List Bool) × Unit)) := match x with
  | ((k, i, ()), (r0, ())) =>
    bif (ilt i (((List.length r0) : Nat) : Int)) then
      Option.bind (ix i (List.length r0)) fun j1 =>
      rec' (((iadd .i64 k 1), ((iadd .i64 i 1), ())), ((List.set r0 j1 (ieq (irem .i64 k 3) 0)), ()))
    else
      some ((k, ()), (r0, ()))

def g_w_markBoolS (a : (List Bool)) (k : Int) : Option (Int × ((List Bool) × Int × Unit)) :=
  Option.bind (iter L_w_markBoolS_1 fuel ((k, (0, ())), (a, ()))) fun y1 =>
  some (y1.1.1, (y1.2.1, (k, ())))


def g_w_markString (a : dString) (k : Int) : Option (Int × (dString × Int × Unit)) :=
  Option.bind (g_w_markVectorS a.1 k) fun y1 =>
  Option.bind (g_w_markVectorS a.2.1 y1.1) fun y2 =>
  Option.bind (g_w_markBoolS a.2.2.1 y2.1) fun y3 =>
  Option.bind (g_w_markFloat32S a.2.2.2.1 y3.1) fun y4 =>
  some (y4.1, ((y1.2.1, (y2.2.1, (y3.2.1, (y4.2.1, a.2.2.2.2)))), (k, ())))


def L_w_heldVectorS_1 (rec' : ((List dVec) × Int × Int × Int × Unit) × (Unit) → Option (Bool × ((Int × Int × Unit) × (Unit)))) (x : ((List dVec) × Int × Int × Int × Unit) × (Unit)) : Option (Bool × ((Int × Int × Unit) × (Unit))) := match x with
  | ((a, k, t4, i, ()), (())) =>
    bif (ilt i (((List.length a) : Nat) : Int)) then
      Option.bind (ix i (List.length a)) fun j1 =>
      bif (!(feq .f32 (List.getD a j1 zVec).1 (fofInt .f32 k))) then
        some (true, ((k, ((-1), ())), ()))
      else
        Option.bind (ix i (List.length a)) fun j2 =>
        bif (!(feq .f32 (List.getD a j2 zVec).2.1 (fofInt .f32 (iadd .i64 k 1)))) then
          some (true, (((iadd .i64 k 1), ((-1), ())), ()))
        else
          Option.bind (ix i (List.length a)) fun j3 =>
          bif (!(feq .f32 (List.getD a j3 zVec).2.2.1 (fofInt .f32 (iadd .i64 (iadd .i64 k 1) 1)))) then
            some (true, (((iadd .i64 (iadd .i64 k 1) 1), ((-1), ())), ()))
          else
            rec' ((a, ((iadd .i64 (iadd .i64 (iadd .i64 k 1) 1) 1), (t4, ((iadd .i64 i 1), ())))), ())
    else
      some (false, ((k, (t4, ())), ()))

def g_w_heldVectorS (a : (List dVec)) (k : Int) : Option (Int) :=
  Option.bind (iter L_w_heldVectorS_1 fuel ((a, (k, (0, (0, ())))), ())) fun y1 =>
  bif y1.1 then
    some y1.2.1.2.1
  else
    some y1.2.1.1


def L_w_heldBoolS_1 (rec' : ((List Bool) × Int × Int × Int × Unit) × (Unit) → Option (Bool × ((Int × Int × Unit) × (Unit)))) (x : ((List Bool) × Int × Int × Int × Unit) × (Unit)) : Option (Bool × ((Int × Int × Unit) × (Unit))) := match x with
  | ((a, k, t4, i, ()), (())) =>
    bif (ilt i (((List.length a) : Nat) : Int)) then
      Option.bind (ix i (List.length a)) fun j1 =>
      bif (!((List.getD a j1 false) == (ieq (irem .i64 k 3) 0))) then
        some (true, ((k, ((-1), ())), ()))
      else
        rec' ((a, ((iadd .i64 k 1), (t4, ((iadd .i64 i 1), ())))), ())
    else
      some (false, ((k, (t4, ())), ()))

def g_w_heldBoolS (a : (List Bool)) (k : Int) : Option (Int) :=
  Option.bind (iter L_w_heldBoolS_1 fuel ((a, (k, (0, (0, ())))), ())) fun y1 =>
  bif y1.1 then
    some y1.2.1.2.1
  else
    some y1.2.1.1


def g_w_heldString (a : dString) (k : Int) : Option (Int) :=
  Option.bind (g_w_heldVectorS a.1 k) fun y1 =>
  bif (ilt y1 0) then
    some (-1)
  else
    Option.bind (g_w_heldVectorS a.2.1 y1) fun y2 =>
    bif (ilt y2 0) then
      some (-1)
    else
      Option.bind (g_w_heldBoolS a.2.2.1 y2) fun y3 =>
      bif (ilt y3 0) then
        some (-1)
      else
        Option.bind (g_w_heldFloat32S a.2.2.2.1 y3) fun y4 =>
        bif (ilt y4 0) then
          some (-1)
        else
          some y4


def g_w_FnExactHangString (aFrom : dVec) (aCount : Int) (aLength : Nat) : Option (Bool) :=
  Option.bind (g_s_HangString (t_w_toVector aFrom) aCount aLength) fun y1 =>
  Option.bind (g_i_HangString (t_w_toVector aFrom) aCount aLength) fun y2 =>
  Option.bind (g_w_eqString y2.1 y1.1) fun y3 =>
  bif (!y3) then
    some false
  else
    bif (!(y2.2.1 == y1.2.1)) then
      some false
    else
      Option.bind (g_w_markString y2.1 1) fun y4 =>
      let e5 := (g_w_heldString (y4.2.1.1, (y4.2.1.2.1, (y4.2.1.2.2.1, (y4.2.1.2.2.2.1, y2.1.2.2.2.2)))) 1)
      Option.bind e5 fun y6 =>
      bif (ilt y6 0) then
        some false
      else
        bif (!(ieq y6 y4.1)) then
          some false
        else
          Option.bind (g_i_HangString (t_w_toVector aFrom) aCount aLength) fun y7 =>
          Option.bind (g_w_eqString y7.1 y1.1) fun y8 =>
          bif (!y8) then
            some false
          else
            bif (!(y7.2.1 == y1.2.1)) then
              some false
            else
              Option.bind e5 fun y9 =>
              bif (ilt y9 0) then
                some false
              else
                bif (!(ieq y9 y4.1)) then
                  some false
                else
                  some true

end
end Go.Fw
