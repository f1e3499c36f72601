/- What the functions compute, as plain Lean functions. No condition. -/
import Derived.Test.YtijmellgdjcofaaGenTypes
set_option linter.unusedVariables false
namespace Go.Fw
noncomputable section
def L_w_toFloat32S_1 (rec' : ((List Nat) × Int × Unit) × ((List Nat) × Unit) → Option ((Unit) × ((List Nat) × Unit))) (x : ((List Nat) × Int × Unit) × ((List Nat) × Unit)) : Option ((Unit) × ((List Nat) × Unit)) := match x with
  | ((a, i, ()), (r0, ())) =>
    bif (ilt i (((List.length a) : Nat) : Int)) then
      Option.bind (ix i (List.length a)) fun j1 =>
      Option.bind (ix i (List.length r0)) fun j2 =>
      rec' ((a, ((iadd .i64 i 1), ())), ((List.set r0 j2 (List.getD a j1 (0 : Nat))), ()))
    else
      some ((), (r0, ()))

def g_w_toFloat32S (a : (List Nat)) : Option ((List Nat)) :=
  bif (mkOk (((List.length a) : Nat) : Int) (((List.length a) : Nat) : Int)) then
    Option.bind (iter L_w_toFloat32S_1 fuel ((a, (0, ())), ((List.replicate (List.length a) 0), ()))) fun y1 =>
    some y1.2.1
  else
    none


def g_s_l01Finite (xx : Nat) : Option (Bool) :=
  some (feq .f32 (fsub .f32 xx xx) 0)

def t_s_l01Finite (xx : Nat) : Bool :=
  (feq .f32 (fsub .f32 xx xx) 0)

theorem q_s_l01Finite (xx : Nat) : g_s_l01Finite xx = some (t_s_l01Finite xx) := rfl


def L_s_l07Scale_1 (rec' : ((List Nat) × Bool × Int × Int × Unit) × (Unit) → Option (Bool × (((List Nat) × Bool × Unit) × (Unit)))) (x : ((List Nat) × Bool × Int × Int × Unit) × (Unit)) : Option (Bool × (((List Nat) × Bool × Unit) × (Unit))) := match x with
  | ((points, t2, t5, t6, ()), (())) =>
    let e1 := (true, ((points, (false, ())), ()))
    let e2 := ((points, (t2, (t5, ((iadd .i64 t6 1), ())))), ())
    bif (ilt t6 t5) then
      Option.bind (ix t6 (List.length points)) fun j3 =>
      bif (!(t_s_l01Finite (List.getD points j3 (0 : Nat)))) then
        some e1
      else
        bif (ilt 0 t6) then
          Option.bind (ix (isub .i64 t6 1) (List.length points)) fun j4 =>
          Option.bind (ix t6 (List.length points)) fun j5 =>
          bif (fge .f32 (List.getD points j4 (0 : Nat)) (List.getD points j5 (0 : Nat))) then
            some e1
          else
            rec' e2
        else
          rec' e2
    else
      some (false, ((points, (t2, ())), ()))

def g_s_l07Scale (points : (List Nat)) : Option (Bool) :=
  Option.bind (iter L_s_l07Scale_1 fuel ((points, (false, ((((List.length points) : Nat) : Int), (0, ())))), ())) fun y1 =>
  bif y1.1 then
    some y1.2.1.2.1
  else
    bif (ile 1 (((List.length y1.2.1.1) : Nat) : Int)) then
      some (ile (((List.length y1.2.1.1) : Nat) : Int) 6)
    else
      some false


def g_s_IsScale (points : (List Nat)) : Option (Bool) :=
  Option.bind (g_s_l07Scale points) fun y1 =>
  some y1


def g_i_IsFinite (xx : Nat) : Option (Bool) :=
  some (feq .f32 (fsub .f32 xx xx) 0)

def t_i_IsFinite (xx : Nat) : Bool :=
  (feq .f32 (fsub .f32 xx xx) 0)

theorem q_i_IsFinite (xx : Nat) : g_i_IsFinite xx = some (t_i_IsFinite xx) := rfl


def L_i_IsScale_1 (rec' : ((List Nat) × Bool × (List Nat) × Int × Int × Unit) × (Unit) → Option (Bool × (((List Nat) × Bool × Unit) × (Unit)))) (x : ((List Nat) × Bool × (List Nat) × Int × Int × Unit) × (Unit)) : Option (Bool × (((List Nat) × Bool × Unit) × (Unit))) := match x with
  | ((points, t2, t5, t6, t7, ()), (())) =>
    let e1 := (true, ((points, (false, ())), ()))
    let e2 := ((points, (t2, (t5, (t6, ((iadd .i64 t7 1), ()))))), ())
    bif (ilt t7 t6) then
      Option.bind (ix t7 (List.length t5)) fun j3 =>
      bif (!(t_i_IsFinite (List.getD t5 j3 (0 : Nat)))) then
        some e1
      else
        bif (ilt 0 t7) then
          Option.bind (ix (isub .i64 t7 1) (List.length points)) fun j4 =>
          bif (fge .f32 (List.getD points j4 (0 : Nat)) (List.getD t5 j3 (0 : Nat))) then
            some e1
          else
            rec' e2
        else
          rec' e2
    else
      some (false, ((points, (t2, ())), ()))

def g_i_IsScale (points : (List Nat)) : Option (Bool) :=
  Option.bind (iter L_i_IsScale_1 fuel ((points, (false, (points, ((((List.length points) : Nat) : Int), (0, ()))))), ())) fun y1 =>
  bif y1.1 then
    some y1.2.1.2.1
  else
    bif (ile 1 (((List.length y1.2.1.1) : Nat) : Int)) then
      some (ile (((List.length y1.2.1.1) : Nat) : Int) 6)
    else
      some false


def g_w_sameFloat (a : Nat) (b : Nat) : Option (Bool) :=
  bif (!(feq .f64 a a)) then
    bif (!(feq .f64 a a)) then
      some (!(feq .f64 b b))
    else
      some false
  else
    bif (!(feq .f64 b b)) then
      bif (!(feq .f64 a a)) then
        some (!(feq .f64 b b))
      else
        some false
    else
      bif (feq .f64 a 0) then
        bif (feq .f64 b 0) then
          some ((fgt .f64 (fdiv .f64 4607182418800017408 a) 0) == (fgt .f64 (fdiv .f64 4607182418800017408 b) 0))
        else
          some (feq .f64 a b)
      else
        some (feq .f64 a b)

def t_w_sameFloat (a : Nat) (b : Nat) : Bool :=
  bif (!(feq .f64 a a)) then
    bif (!(feq .f64 a a)) then
      (!(feq .f64 b b))
    else
      false
  else
    bif (!(feq .f64 b b)) then
      bif (!(feq .f64 a a)) then
        (!(feq .f64 b b))
      else
        false
    else
      bif (feq .f64 a 0) then
        bif (feq .f64 b 0) then
          ((fgt .f64 (fdiv .f64 4607182418800017408 a) 0) == (fgt .f64 (fdiv .f64 4607182418800017408 b) 0))
        else
          (feq .f64 a b)
      else
        (feq .f64 a b)

theorem q_w_sameFloat (a : Nat) (b : Nat) : g_w_sameFloat a b = some (t_w_sameFloat a b) := by
  unfold g_w_sameFloat t_w_sameFloat; simp only [bif_some_some]


def L_w_eqFloat32S_1 (rec' : ((List Nat) × (List Nat) × Bool × Int × Unit) × (Unit) → Option (Bool × ((Bool × Unit) × (Unit)))) (x : ((List Nat) × (List Nat) × Bool × Int × Unit) × (Unit)) : Option (Bool × ((Bool × Unit) × (Unit))) := match x with
  | ((a, b, t4, i, ()), (())) =>
    bif (ilt i (((List.length a) : Nat) : Int)) then
      Option.bind (ix i (List.length a)) fun j1 =>
      Option.bind (ix i (List.length b)) fun j2 =>
      bif (!(t_w_sameFloat (fwide (List.getD a j1 (0 : Nat))) (fwide (List.getD b j2 (0 : Nat))))) then
        some (true, ((false, ()), ()))
      else
        rec' ((a, (b, (t4, ((iadd .i64 i 1), ())))), ())
    else
      some (false, ((t4, ()), ()))

def g_w_eqFloat32S (a : (List Nat)) (b : (List Nat)) : Option (Bool) :=
  bif (!(ieq (((List.length a) : Nat) : Int) (((List.length b) : Nat) : Int))) then
    some false
  else
    Option.bind (iter L_w_eqFloat32S_1 fuel ((a, (b, (false, (0, ())))), ())) fun y1 =>
    bif y1.1 then
      some y1.2.1.1
    else
      some true


def g_w_FnExactIsScale (aPoints : (List Nat)) : Option (Bool) :=
  bif (ilt 1048576 (((List.length aPoints) : Nat) : Int)) then
    some true
  else
    Option.bind (g_w_toFloat32S aPoints) fun y1 =>
    Option.bind (g_s_IsScale y1) fun y2 =>
    Option.bind (g_w_toFloat32S aPoints) fun y3 =>
    Option.bind (g_i_IsScale y3) fun y4 =>
    bif (!(y4 == y2)) then
      some false
    else
      Option.bind (g_w_toFloat32S aPoints) fun y5 =>
      Option.bind (g_w_eqFloat32S y3 y5) fun y6 =>
      bif (!y6) then
        some false
      else
        some true


def g_w_szVectorS (a : (List dVec)) (left : Int) : Option (Int) :=
  bif (ilt (isub .i64 left (((List.length a) : Nat) : Int)) 0) then
    some (-1)
  else
    some (isub .i64 left (((List.length a) : Nat) : Int))

def t_w_szVectorS (a : (List dVec)) (left : Int) : Int :=
  bif (ilt (isub .i64 left (((List.length a) : Nat) : Int)) 0) then
    (-1)
  else
    (isub .i64 left (((List.length a) : Nat) : Int))

theorem q_w_szVectorS (a : (List dVec)) (left : Int) : g_w_szVectorS a left = some (t_w_szVectorS a left) := by
  unfold g_w_szVectorS t_w_szVectorS; simp only [bif_some_some]


def g_w_toVector (a : dVec) : Option (dVec) :=
  some a

def t_w_toVector (a : dVec) : dVec :=
  a

theorem q_w_toVector (a : dVec) : g_w_toVector a = some (t_w_toVector a) := rfl


def L_w_toVectorS_1 (rec' : ((List dVec) × Int × Unit) × ((List dVec) × Unit) → Option ((Unit) × ((List dVec) × Unit))) (x : ((List dVec) × Int × Unit) × ((List dVec) × Unit)) : Option ((Unit) × ((List dVec) × Unit)) := match x with
  | ((a, i, ()), (r0, ())) =>
    bif (ilt i (((List.length a) : Nat) : Int)) then
      Option.bind (ix i (List.length a)) fun j1 =>
      Option.bind (ix i (List.length r0)) fun j2 =>
      rec' ((a, ((iadd .i64 i 1), ())), ((List.set r0 j2 (t_w_toVector (List.getD a j1 zVec))), ()))
    else
      some ((), (r0, ()))

def g_w_toVectorS (a : (List dVec)) : Option ((List dVec)) :=
  bif (mkOk (((List.length a) : Nat) : Int) (((List.length a) : Nat) : Int)) then
    Option.bind (iter L_w_toVectorS_1 fuel ((a, (0, ())), ((List.replicate (List.length a) (0, (0, (0, ())))), ()))) fun y1 =>
    some y1.2.1
  else
    none


def g_s_l01Add (a : dVec) (b : dVec) : Option (dVec) :=
  some ((fadd .f32 a.1 b.1), ((fadd .f32 a.2.1 b.2.1), ((fadd .f32 a.2.2.1 b.2.2.1), ())))

def t_s_l01Add (a : dVec) (b : dVec) : dVec :=
  ((fadd .f32 a.1 b.1), ((fadd .f32 a.2.1 b.2.1), ((fadd .f32 a.2.2.1 b.2.2.1), ())))

theorem q_s_l01Add (a : dVec) (b : dVec) : g_s_l01Add a b = some (t_s_l01Add a b) := rfl


def g_s_l01Scale (v : dVec) (byx : Nat) : Option (dVec) :=
  some ((fmul .f32 v.1 byx), ((fmul .f32 v.2.1 byx), ((fmul .f32 v.2.2.1 byx), ())))

def t_s_l01Scale (v : dVec) (byx : Nat) : dVec :=
  ((fmul .f32 v.1 byx), ((fmul .f32 v.2.1 byx), ((fmul .f32 v.2.2.1 byx), ())))

theorem q_s_l01Scale (v : dVec) (byx : Nat) : g_s_l01Scale v byx = some (t_s_l01Scale v byx) := rfl


def L_s_MiddleOf_1 (rec' : ((List dVec) × Int × Int × Unit) × ((dVec × Unit) × (dVec × Unit) × Unit) → Option (((List dVec) × Unit) × ((dVec × Unit) × (dVec × Unit) × Unit))) (x : ((List dVec) × Int × Int × Unit) × ((dVec × Unit) × (dVec × Unit) × Unit)) : Option (((List dVec) × Unit) × ((dVec × Unit) × (dVec × Unit) × Unit)) := match x with
  | ((places, t17, t18, ()), ((b0, ()), (b1, ()), ())) =>
    bif (ilt t18 t17) then
      Option.bind (ix t18 (List.length places)) fun j1 =>
      rec' ((places, (t17, ((iadd .i64 t18 1), ()))), ((b0, ()), (((t_s_l01Add b1 (List.getD places j1 zVec)), ()), ())))
    else
      some ((places, ()), ((b0, ()), ((b1, ()), ())))

def g_s_MiddleOf (places : (List dVec)) : Option ((dVec × (Bool × Unit))) :=
  let e1 := ((0, (0, (0, ()))), ())
  let e2 := ((0, (0, (0, ()))), (false, ()))
  bif (ilt (((List.length places) : Nat) : Int) 1) then
    some e2
  else
    bif (ilt 24 (((List.length places) : Nat) : Int)) then
      some e2
    else
      Option.bind (iter L_s_MiddleOf_1 fuel ((places, ((((List.length places) : Nat) : Int), (0, ()))), (e1, (e1, ())))) fun y3 =>
      some ((t_s_l01Scale y3.2.2.1.1 (fdiv .f32 1065353216 (fofInt .f32 (((List.length y3.1.1) : Nat) : Int)))), (true, ()))


def g_i_AddVectors (a : dVec) (b : dVec) : Option (dVec) :=
  some ((fadd .f32 a.1 b.1), ((fadd .f32 a.2.1 b.2.1), ((fadd .f32 a.2.2.1 b.2.2.1), ())))

def t_i_AddVectors (a : dVec) (b : dVec) : dVec :=
  ((fadd .f32 a.1 b.1), ((fadd .f32 a.2.1 b.2.1), ((fadd .f32 a.2.2.1 b.2.2.1), ())))

theorem q_i_AddVectors (a : dVec) (b : dVec) : g_i_AddVectors a b = some (t_i_AddVectors a b) := rfl


def g_i_ScaleVector (v : dVec) (byx : Nat) : Option (dVec) :=
  some ((fmul .f32 v.1 byx), ((fmul .f32 v.2.1 byx), ((fmul .f32 v.2.2.1 byx), ())))

def t_i_ScaleVector (v : dVec) (byx : Nat) : dVec :=
  ((fmul .f32 v.1 byx), ((fmul .f32 v.2.1 byx), ((fmul .f32 v.2.2.1 byx), ())))

theorem q_i_ScaleVector (v : dVec) (byx : Nat) : g_i_ScaleVector v byx = some (t_i_ScaleVector v byx) := rfl


def L_i_MiddleOf_1 (rec' : ((List dVec) × (List dVec) × Int × Int × Unit) × ((dVec × Unit) × (dVec × Unit) × Unit) → Option (((List dVec) × Unit) × ((dVec × Unit) × (dVec × Unit) × Unit))) (x : ((List dVec) × (List dVec) × Int × Int × Unit) × ((dVec × Unit) × (dVec × Unit) × Unit)) : Option (((List dVec) × Unit) × ((dVec × Unit) × (dVec × Unit) × Unit)) := match x with
  | ((places, t16, t17, t18, ()), ((b0, ()), (b1, ()), ())) =>
    bif (ilt t18 t17) then
      Option.bind (ix t18 (List.length t16)) fun j1 =>
      rec' ((places, (t16, (t17, ((iadd .i64 t18 1), ())))), ((b0, ()), (((t_i_AddVectors b1 (List.getD t16 j1 zVec)), ()), ())))
    else
      some ((places, ()), ((b0, ()), ((b1, ()), ())))

def g_i_MiddleOf (places : (List dVec)) : Option ((dVec × (Bool × Unit))) :=
  let e1 := ((0, (0, (0, ()))), ())
  let e2 := ((0, (0, (0, ()))), (false, ()))
  bif (ilt (((List.length places) : Nat) : Int) 1) then
    some e2
  else
    bif (ilt 24 (((List.length places) : Nat) : Int)) then
      some e2
    else
      Option.bind (iter L_i_MiddleOf_1 fuel ((places, (places, ((((List.length places) : Nat) : Int), (0, ())))), (e1, (e1, ())))) fun y3 =>
      some ((t_i_ScaleVector y3.2.2.1.1 (fdiv .f32 1065353216 (fofInt .f32 (((List.length y3.1.1) : Nat) : Int)))), (true, ()))


def g_w_eqVector (a : dVec) (b : dVec) : Option (Bool) :=
  bif (!(t_w_sameFloat (fwide a.1) (fwide b.1))) then
    some false
  else
    bif (!(t_w_sameFloat (fwide a.2.1) (fwide b.2.1))) then
      some false
    else
      bif (!(t_w_sameFloat (fwide a.2.2.1) (fwide b.2.2.1))) then
        some false
      else
        some true

def t_w_eqVector (a : dVec) (b : dVec) : Bool :=
  bif (!(t_w_sameFloat (fwide a.1) (fwide b.1))) then
    false
  else
    bif (!(t_w_sameFloat (fwide a.2.1) (fwide b.2.1))) then
      false
    else
      bif (!(t_w_sameFloat (fwide a.2.2.1) (fwide b.2.2.1))) then
        false
      else
        true

theorem q_w_eqVector (a : dVec) (b : dVec) : g_w_eqVector a b = some (t_w_eqVector a b) := by
  unfold g_w_eqVector t_w_eqVector; simp only [bif_some_some]


def L_w_eqVectorS_1 (rec' : ((List dVec) × (List dVec) × Bool × Int × Unit) × (Unit) → Option (Bool × ((Bool × Unit) × (Unit)))) (x : ((List dVec) × (List dVec) × Bool × Int × Unit) × (Unit)) : Option (Bool × ((Bool × Unit) × (Unit))) := match x with
  | ((a, b, t4, i, ()), (())) =>
    bif (ilt i (((List.length a) : Nat) : Int)) then
      Option.bind (ix i (List.length a)) fun j1 =>
      Option.bind (ix i (List.length b)) fun j2 =>
      bif (!(t_w_eqVector (List.getD a j1 zVec) (List.getD b j2 zVec))) then
        some (true, ((false, ()), ()))
      else
        rec' ((a, (b, (t4, ((iadd .i64 i 1), ())))), ())
    else
      some (false, ((t4, ()), ()))

def g_w_eqVectorS (a : (List dVec)) (b : (List dVec)) : Option (Bool) :=
  bif (!(ieq (((List.length a) : Nat) : Int) (((List.length b) : Nat) : Int))) then
    some false
  else
    Option.bind (iter L_w_eqVectorS_1 fuel ((a, (b, (false, (0, ())))), ())) fun y1 =>
    bif y1.1 then
      some y1.2.1.1
    else
      some true


def g_w_FnExactMiddleOf (aPlaces : (List dVec)) : Option (Bool) :=
  bif (ilt (t_w_szVectorS aPlaces 1048576) 0) then
    some true
  else
    Option.bind (g_w_toVectorS aPlaces) fun y1 =>
    Option.bind (g_s_MiddleOf y1) fun y2 =>
    Option.bind (g_w_toVectorS aPlaces) fun y3 =>
    Option.bind (g_i_MiddleOf y3) fun y4 =>
    bif (!(t_w_eqVector y4.1 y2.1)) then
      some false
    else
      bif (!(y4.2.1 == y2.2.1)) then
        some false
      else
        Option.bind (g_w_toVectorS aPlaces) fun y5 =>
        Option.bind (g_w_eqVectorS y3 y5) fun y6 =>
        bif (!y6) then
          some false
        else
          some true


def g_s_l00In (n : Int) (low : Int) (high : Int) : Option (Bool) :=
  bif (ile low n) then
    some (ile n high)
  else
    some false

def t_s_l00In (n : Int) (low : Int) (high : Int) : Bool :=
  bif (ile low n) then
    (ile n high)
  else
    false

theorem q_s_l00In (n : Int) (low : Int) (high : Int) : g_s_l00In n low high = some (t_s_l00In n low high) := by
  unfold g_s_l00In t_s_l00In; simp only [bif_some_some]


def L_s_l10Parts_1 (rec' : (Int × Int × Int × Int × Unit) × ((List (List Int)) × Unit) → Option ((Unit) × ((List (List Int)) × Unit))) (x : (Int × Int × Int × Int × Unit) × ((List (List Int)) × Unit)) : Option ((Unit) × ((List (List Int)) × Unit)) := match x with
  | ((count, workers, fromx, k, ()), (r0, ())) =>
    let e1 := (([] : List (List Int)) ++ [[fromx, (iadd .i64 (iquo .i64 count workers) 1)]])
    bif (ilt k workers) then
      bif (nz workers) then
        bif (nz workers) then
          bif (ilt k (irem .i64 count workers)) then
            bif (Nat.ble ((List.length r0) + (List.length e1)) 4294967296) then
              rec' ((count, (workers, ((iadd .i64 fromx (iadd .i64 (iquo .i64 count workers) 1)), ((iadd .i64 k 1), ())))), ((r0 ++ e1), ()))
            else
              none
          else
            bif (Nat.ble ((List.length r0) + (List.length (([] : List (List Int)) ++ [[fromx, (iquo .i64 count workers)]]))) 4294967296) then
              rec' ((count, (workers, ((iadd .i64 fromx (iquo .i64 count workers)), ((iadd .i64 k 1), ())))), ((r0 ++ (([] : List (List Int)) ++ [[fromx, (iquo .i64 count workers)]])), ()))
            else
              none
        else
          none
      else
        none
    else
      some ((), (r0, ()))

def g_s_l10Parts (count : Int) (workers : Int) : Option ((List (List Int))) :=
  Option.bind (iter L_s_l10Parts_1 fuel ((count, (workers, (0, (0, ())))), ((([] : List (List Int)) ++ []), ()))) fun y1 =>
  some y1.2.1


def g_s_PartsOfFrames (count : Int) (workers : Int) : Option (((List (List Int)) × (Bool × Unit))) :=
  bif (!(t_s_l00In count 0 64)) then
    some (([] : List (List Int)), (false, ()))
  else
    bif (!(t_s_l00In workers 1 8)) then
      some (([] : List (List Int)), (false, ()))
    else
      Option.bind (g_s_l10Parts count workers) fun y1 =>
      some (y1, (true, ()))


def g_i_areWorkers (workers : Int) : Option (Bool) :=
  bif (ile 1 workers) then
    some (ile workers 8)
  else
    some false

def t_i_areWorkers (workers : Int) : Bool :=
  bif (ile 1 workers) then
    (ile workers 8)
  else
    false

theorem q_i_areWorkers (workers : Int) : g_i_areWorkers workers = some (t_i_areWorkers workers) := by
  unfold g_i_areWorkers t_i_areWorkers; simp only [bif_some_some]


def L_i_PartsOfFrames_1 (rec' : (Int × Int × Int × Int × Int × Unit) × ((List (List Int)) × Unit) → Option ((Unit) × ((List (List Int)) × Unit))) (x : (Int × Int × Int × Int × Int × Unit) × ((List (List Int)) × Unit)) : Option ((Unit) × ((List (List Int)) × Unit)) := match x with
  | ((count, workers, first, t21, t22, ()), (r0, ())) =>
    let e1 := (([] : List (List Int)) ++ [[first, (iadd .i64 (iquo .i64 count workers) 1)]])
    bif (ilt t22 t21) then
      bif (nz workers) then
        bif (nz workers) then
          bif (ilt t22 (irem .i64 count workers)) then
            bif (Nat.ble ((List.length r0) + (List.length e1)) 4294967296) then
              rec' ((count, (workers, ((iadd .i64 first (iadd .i64 (iquo .i64 count workers) 1)), (t21, ((iadd .i64 t22 1), ()))))), ((r0 ++ e1), ()))
            else
              none
          else
            bif (Nat.ble ((List.length r0) + (List.length (([] : List (List Int)) ++ [[first, (iquo .i64 count workers)]]))) 4294967296) then
              rec' ((count, (workers, ((iadd .i64 first (iquo .i64 count workers)), (t21, ((iadd .i64 t22 1), ()))))), ((r0 ++ (([] : List (List Int)) ++ [[first, (iquo .i64 count workers)]])), ()))
            else
              none
        else
          none
      else
        none
    else
      some ((), (r0, ()))

def g_i_PartsOfFrames (count : Int) (workers : Int) : Option (((List (List Int)) × (Bool × Unit))) :=
  bif (ilt count 0) then
    some (([] : List (List Int)), (false, ()))
  else
    bif (ilt 64 count) then
      some (([] : List (List Int)), (false, ()))
    else
      bif (!(t_i_areWorkers workers)) then
        some (([] : List (List Int)), (false, ()))
      else
        Option.bind (iter L_i_PartsOfFrames_1 fuel ((count, (workers, (0, (workers, (0, ()))))), (([] : List (List Int)), ()))) fun y1 =>
        some (y1.2.1, (true, ()))


def L_w_eqInt64S_1 (rec' : ((List Int) × (List Int) × Bool × Int × Unit) × (Unit) → Option (Bool × ((Bool × Unit) × (Unit)))) (x : ((List Int) × (List Int) × Bool × Int × Unit) × (Unit)) : Option (Bool × ((Bool × Unit) × (Unit))) := match x with
  | ((a, b, t4, i, ()), (())) =>
    bif (ilt i (((List.length a) : Nat) : Int)) then
      Option.bind (ix i (List.length a)) fun j1 =>
      Option.bind (ix i (List.length b)) fun j2 =>
      bif (!(ieq (List.getD a j1 (0 : Int)) (List.getD b j2 (0 : Int)))) then
        some (true, ((false, ()), ()))
      else
        rec' ((a, (b, (t4, ((iadd .i64 i 1), ())))), ())
    else
      some (false, ((t4, ()), ()))

def g_w_eqInt64S (a : (List Int)) (b : (List Int)) : Option (Bool) :=
  bif (!(ieq (((List.length a) : Nat) : Int) (((List.length b) : Nat) : Int))) then
    some false
  else
    Option.bind (iter L_w_eqInt64S_1 fuel ((a, (b, (false, (0, ())))), ())) fun y1 =>
    bif y1.1 then
      some y1.2.1.1
    else
      some true


def L_w_eqInt64SS_1 (rec' : ((List (List Int)) × (List (List Int)) × Bool × Int × Unit) × (Unit) → Option (Bool × ((Bool × Unit) × (Unit)))) (x : ((List (List Int)) × (List (List Int)) × Bool × Int × Unit) × (Unit)) : Option (Bool × ((Bool × Unit) × (Unit))) := match x with
  | ((a, b, t4, i, ()), (())) =>
    bif (ilt i (((List.length a) : Nat) : Int)) then
      Option.bind (ix i (List.length a)) fun j1 =>
      Option.bind (ix i (List.length b)) fun j2 =>
      Option.bind (g_w_eqInt64S (List.getD a j1 []) (List.getD b j2 [])) fun y3 =>
      bif (!y3) then
        some (true, ((false, ()), ()))
      else
        rec' ((a, (b, (t4, ((iadd .i64 i 1), ())))), ())
    else
      some (false, ((t4, ()), ()))

def g_w_eqInt64SS (a : (List (List Int))) (b : (List (List Int))) : Option (Bool) :=
  bif (!(ieq (((List.length a) : Nat) : Int) (((List.length b) : Nat) : Int))) then
    some false
  else
    Option.bind (iter L_w_eqInt64SS_1 fuel ((a, (b, (false, (0, ())))), ())) fun y1 =>
    bif y1.1 then
      some y1.2.1.1
    else
      some true


def L_w_markInt64S_1 (rec' : (Int × Int × Unit) × ((List Int) × Unit) → Option ((Int × Unit) × ((List Int) × Unit))) (x : (Int × Int × Unit) × ((List Int) × Unit)) : Option ((Int × Unit) × ((List Int) × Unit)) := match x with
  | ((k, i, ()), (r0, ())) =>
    bif (ilt i (((List.length r0) : Nat) : Int)) then
      Option.bind (ix i (List.length r0)) fun j1 =>
      rec' (((iadd .i64 k 1), ((iadd .i64 i 1), ())), ((List.set r0 j1 k), ()))
    else
      some ((k, ()), (r0, ()))

def g_w_markInt64S (a : (List Int)) (k : Int) : Option (Int × ((List Int) × Int × Unit)) :=
  Option.bind (iter L_w_markInt64S_1 fuel ((k, (0, ())), (a, ()))) fun y1 =>
  some (y1.1.1, (y1.2.1, (k, ())))


def L_w_markInt64SS_1 (rec' : (Int × Int × Unit) × ((List (List Int)) × Unit) → Option ((Int × Unit) × ((List (List Int)) × Unit))) (x : (Int × Int × Unit) × ((List (List Int)) × Unit)) : Option ((Int × Unit) × ((List (List Int)) × Unit)) := match x with
  | ((k, i, ()), (r0, ())) =>
    bif (ilt i (((List.length r0) : Nat) : Int)) then
      Option.bind (ix i (List.length r0)) fun j1 =>
      Option.bind (g_w_markInt64S (List.getD r0 j1 []) k) fun y2 =>
      rec' ((y2.1, ((iadd .i64 i 1), ())), ((List.set r0 j1 y2.2.1), ()))
    else
      some ((k, ()), (r0, ()))

def g_w_markInt64SS (a : (List (List Int))) (k : Int) : Option (Int × ((List (List Int)) × Int × Unit)) :=
  Option.bind (iter L_w_markInt64SS_1 fuel ((k, (0, ())), (a, ()))) fun y1 =>
  some (y1.1.1, (y1.2.1, (k, ())))


def L_w_heldInt64S_1 (rec' : ((List Int) × Int × Int × Int × Unit) × (Unit) → Option (Bool × ((Int × Int × Unit) × (Unit)))) (x : ((List Int) × Int × Int × Int × Unit) × (Unit)) : Option (Bool × ((Int × Int × Unit) × (Unit))) := match x with
  | ((a, k, t4, i, ()), (())) =>
    bif (ilt i (((List.length a) : Nat) : Int)) then
      Option.bind (ix i (List.length a)) fun j1 =>
      bif (!(ieq (List.getD a j1 (0 : Int)) k)) then
        some (true, ((k, ((-1), ())), ()))
      else
        rec' ((a, ((iadd .i64 k 1), (t4, ((iadd .i64 i 1), ())))), ())
    else
      some (false, ((k, (t4, ())), ()))

def g_w_heldInt64S (a : (List Int)) (k : Int) : Option (Int) :=
  Option.bind (iter L_w_heldInt64S_1 fuel ((a, (k, (0, (0, ())))), ())) fun y1 =>
  bif y1.1 then
    some y1.2.1.2.1
  else
    some y1.2.1.1


def L_w_heldInt64SS_1 (rec' : ((List (List Int)) × Int × Int × Int × Unit) × (Unit) → Option (Bool × ((Int × Int × Unit) × (Unit)))) (x : ((List (List Int)) × Int × Int × Int × Unit) × (Unit)) : Option (Bool × ((Int × Int × Unit) × (Unit))) := match x with
  | ((a, k, t4, i, ()), (())) =>
    bif (ilt i (((List.length a) : Nat) : Int)) then
      Option.bind (ix i (List.length a)) fun j1 =>
      Option.bind (g_w_heldInt64S (List.getD a j1 []) k) fun y2 =>
      bif (ilt y2 0) then
        some (true, ((y2, ((-1), ())), ()))
      else
        rec' ((a, (y2, (t4, ((iadd .i64 i 1), ())))), ())
    else
      some (false, ((k, (t4, ())), ()))

def g_w_heldInt64SS (a : (List (List Int))) (k : Int) : Option (Int) :=
  Option.bind (iter L_w_heldInt64SS_1 fuel ((a, (k, (0, (0, ())))), ())) fun y1 =>
  bif y1.1 then
    some y1.2.1.2.1
  else
    some y1.2.1.1


def g_w_FnExactPartsOfFrames (aCount : Int) (aWorkers : Int) : Option (Bool) :=
  Option.bind (g_s_PartsOfFrames aCount aWorkers) fun y1 =>
  Option.bind (g_i_PartsOfFrames aCount aWorkers) fun y2 =>
  Option.bind (g_w_eqInt64SS y2.1 y1.1) fun y3 =>
  bif (!y3) then
    some false
  else
    bif (!(y2.2.1 == y1.2.1)) then
      some false
    else
      Option.bind (g_w_markInt64SS y2.1 1) fun y4 =>
      Option.bind (g_w_heldInt64SS y4.2.1 1) fun y5 =>
      bif (ilt y5 0) then
        some false
      else
        bif (!(ieq y5 y4.1)) then
          some false
        else
          Option.bind (g_i_PartsOfFrames aCount aWorkers) fun y6 =>
          Option.bind (g_w_eqInt64SS y6.1 y1.1) fun y7 =>
          bif (!y7) then
            some false
          else
            bif (!(y6.2.1 == y1.2.1)) then
              some false
            else
              Option.bind (g_w_heldInt64SS y4.2.1 1) fun y8 =>
              bif (ilt y8 0) then
                some false
              else
                bif (!(ieq y8 y4.1)) then
                  some false
                else
                  some true


def L_s_l07Weights_1 (rec' : ((List Nat) × Nat × Int × Unit) × ((List Nat) × Unit) → Option (((List Nat) × Nat × Int × Unit) × ((List Nat) × Unit))) (x : ((List Nat) × Nat × Int × Unit) × ((List Nat) × Unit)) : Option (((List Nat) × Nat × Int × Unit) × ((List Nat) × Unit)) := match x with
  | ((points, xx, i, ()), (r0, ())) =>
    Option.bind (ix (iadd .i64 i 1) (List.length points)) fun j1 =>
    bif (fle .f32 (List.getD points j1 (0 : Nat)) xx) then
      rec' ((points, (xx, ((iadd .i64 i 1), ()))), (r0, ()))
    else
      some ((points, (xx, (i, ()))), (r0, ()))

def g_s_l07Weights (points : (List Nat)) (xx : Nat) : Option ((List Nat)) :=
  bif (mkOk (((List.length points) : Nat) : Int) (((List.length points) : Nat) : Int)) then
    Option.bind (ix 0 (List.length points)) fun j1 =>
    bif (fle .f32 xx (List.getD points j1 (0 : Nat))) then
      Option.bind (ix 0 (List.length (List.replicate (List.length points) 0))) fun j2 =>
      some (List.set (List.replicate (List.length points) 0) j2 1065353216)
    else
      Option.bind (ix (isub .i64 (((List.length points) : Nat) : Int) 1) (List.length points)) fun j3 =>
      bif (fge .f32 xx (List.getD points j3 (0 : Nat))) then
        Option.bind (ix (isub .i64 (((List.length points) : Nat) : Int) 1) (List.length (List.replicate (List.length points) 0))) fun j4 =>
        some (List.set (List.replicate (List.length points) 0) j4 1065353216)
      else
        Option.bind (iter L_s_l07Weights_1 fuel ((points, (xx, (0, ()))), ((List.replicate (List.length points) 0), ()))) fun y5 =>
        let e6 := (ix y5.1.2.2.1 (List.length y5.1.1))
        Option.bind e6 fun j7 =>
        Option.bind (ix (iadd .i64 y5.1.2.2.1 1) (List.length y5.1.1)) fun j8 =>
        Option.bind e6 fun j9 =>
        let e10 := (fdiv .f32 (fsub .f32 y5.1.2.1 (List.getD y5.1.1 j7 (0 : Nat))) (fsub .f32 (List.getD y5.1.1 j8 (0 : Nat)) (List.getD y5.1.1 j9 (0 : Nat))))
        Option.bind (ix y5.1.2.2.1 (List.length y5.2.1)) fun j11 =>
        let e12 := (List.set y5.2.1 j11 (fsub .f32 1065353216 e10))
        Option.bind (ix (iadd .i64 y5.1.2.2.1 1) (List.length e12)) fun j13 =>
        some (List.set e12 j13 e10)
  else
    none


def g_s_WeightsAt (points : (List Nat)) (xx : Nat) : Option (((List Nat) × (Bool × Unit))) :=
  Option.bind (g_s_l07Scale points) fun y1 =>
  bif (!y1) then
    some (([] : List Nat), (false, ()))
  else
    bif (!(feq .f32 xx xx)) then
      some (([] : List Nat), (false, ()))
    else
      Option.bind (g_s_l07Weights points xx) fun y2 =>
      some (y2, (true, ()))


def L_i_WeightsAt_1 (rec' : ((List Nat) × Nat × Int × Unit) × ((List Nat) × Unit) → Option (((List Nat) × Nat × Int × Unit) × ((List Nat) × Unit))) (x : ((List Nat) × Nat × Int × Unit) × ((List Nat) × Unit)) : Option (((List Nat) × Nat × Int × Unit) × ((List Nat) × Unit)) := match x with
  | ((points, xx, i, ()), (r0, ())) =>
    Option.bind (ix (iadd .i64 i 1) (List.length points)) fun j1 =>
    bif (fge .f32 xx (List.getD points j1 (0 : Nat))) then
      rec' ((points, (xx, ((iadd .i64 i 1), ()))), (r0, ()))
    else
      some ((points, (xx, (i, ()))), (r0, ()))

def g_i_WeightsAt (points : (List Nat)) (xx : Nat) : Option (((List Nat) × (Bool × Unit))) :=
  Option.bind (g_i_IsScale points) fun y1 =>
  bif (!y1) then
    some (([] : List Nat), (false, ()))
  else
    bif (!(feq .f32 xx xx)) then
      some (([] : List Nat), (false, ()))
    else
      bif (mkOk (((List.length points) : Nat) : Int) (((List.length points) : Nat) : Int)) then
        Option.bind (ix 0 (List.length points)) fun j2 =>
        bif (fle .f32 xx (List.getD points j2 (0 : Nat))) then
          Option.bind (ix 0 (List.length (List.replicate (List.length points) 0))) fun j3 =>
          some ((List.set (List.replicate (List.length points) 0) j3 1065353216), (true, ()))
        else
          Option.bind (ix (isub .i64 (((List.length points) : Nat) : Int) 1) (List.length points)) fun j4 =>
          bif (fge .f32 xx (List.getD points j4 (0 : Nat))) then
            Option.bind (ix (isub .i64 (((List.length points) : Nat) : Int) 1) (List.length (List.replicate (List.length points) 0))) fun j5 =>
            some ((List.set (List.replicate (List.length points) 0) j5 1065353216), (true, ()))
          else
            Option.bind (iter L_i_WeightsAt_1 fuel ((points, (xx, (0, ()))), ((List.replicate (List.length points) 0), ()))) fun y6 =>
            let e7 := (ix y6.1.2.2.1 (List.length y6.1.1))
            Option.bind e7 fun j8 =>
            Option.bind (ix (iadd .i64 y6.1.2.2.1 1) (List.length y6.1.1)) fun j9 =>
            Option.bind e7 fun j10 =>
            let e11 := (fdiv .f32 (fsub .f32 y6.1.2.1 (List.getD y6.1.1 j8 (0 : Nat))) (fsub .f32 (List.getD y6.1.1 j9 (0 : Nat)) (List.getD y6.1.1 j10 (0 : Nat))))
            Option.bind (ix y6.1.2.2.1 (List.length y6.2.1)) fun j12 =>
            let e13 := (List.set y6.2.1 j12 (fsub .f32 1065353216 e11))
            Option.bind (ix (iadd .i64 y6.1.2.2.1 1) (List.length e13)) fun j14 =>
            some ((List.set e13 j14 e11), (true, ()))
      else
        none


def L_w_markFloat32S_1 (rec' : (Int × Int × Unit) × ((List Nat) × Unit) → Option ((Int × Unit) × ((List Nat) × Unit))) (x : (Int × Int × Unit) × ((List Nat) × Unit)) : Option ((Int × Unit) × ((List Nat) × Unit)) := match x with
  | ((k, i, ()), (r0, ())) =>
    bif (ilt i (((List.length r0) : Nat) : Int)) then
      Option.bind (ix i (List.length r0)) fun j1 =>
      rec' (((iadd .i64 k 1), ((iadd .i64 i 1), ())), ((List.set r0 j1 (fofInt .f32 k)), ()))
    else
      some ((k, ()), (r0, ()))

def g_w_markFloat32S (a : (List Nat)) (k : Int) : Option (Int × ((List Nat) × Int × Unit)) :=
  Option.bind (iter L_w_markFloat32S_1 fuel ((k, (0, ())), (a, ()))) fun y1 =>
  some (y1.1.1, (y1.2.1, (k, ())))


def L_w_heldFloat32S_1 (rec' : ((List Nat) × Int × Int × Int × Unit) × (Unit) → Option (Bool × ((Int × Int × Unit) × (Unit)))) (x : ((List Nat) × Int × Int × Int × Unit) × (Unit)) : Option (Bool × ((Int × Int × Unit) × (Unit))) := match x with
  | ((a, k, t4, i, ()), (())) =>
    bif (ilt i (((List.length a) : Nat) : Int)) then
      Option.bind (ix i (List.length a)) fun j1 =>
      bif (!(feq .f32 (List.getD a j1 (0 : Nat)) (fofInt .f32 k))) then
        some (true, ((k, ((-1), ())), ()))
      else
        rec' ((a, ((iadd .i64 k 1), (t4, ((iadd .i64 i 1), ())))), ())
    else
      some (false, ((k, (t4, ())), ()))

def g_w_heldFloat32S (a : (List Nat)) (k : Int) : Option (Int) :=
  Option.bind (iter L_w_heldFloat32S_1 fuel ((a, (k, (0, (0, ())))), ())) fun y1 =>
  bif y1.1 then
    some y1.2.1.2.1
  else
    some y1.2.1.1


def g_w_FnExactWeightsAt (aPoints : (List Nat)) (aX : Nat) : Option (Bool) :=
  bif (ilt 1048576 (((List.length aPoints) : Nat) : Int)) then
    some true
  else
    Option.bind (g_w_toFloat32S aPoints) fun y1 =>
    Option.bind (g_s_WeightsAt y1 aX) fun y2 =>
    Option.bind (g_w_toFloat32S aPoints) fun y3 =>
    Option.bind (g_i_WeightsAt y3 aX) fun y4 =>
    Option.bind (g_w_eqFloat32S y4.1 y2.1) fun y5 =>
    bif (!y5) then
      some false
    else
      bif (!(y4.2.1 == y2.2.1)) then
        some false
      else
        Option.bind (g_w_toFloat32S aPoints) fun y6 =>
        Option.bind (g_w_eqFloat32S y3 y6) fun y7 =>
        bif (!y7) then
          some false
        else
          Option.bind (g_w_markFloat32S y3 1) fun y8 =>
          bif (ilt y8.1 0) then
            some false
          else
            Option.bind (g_w_eqFloat32S y4.1 y2.1) fun y9 =>
            bif (!y9) then
              some false
            else
              bif (!(y4.2.1 == y2.2.1)) then
                some false
              else
                Option.bind (g_w_markFloat32S y4.1 1) fun y10 =>
                Option.bind (g_w_heldFloat32S y10.2.1 1) fun y11 =>
                bif (ilt y11 0) then
                  some false
                else
                  bif (!(ieq y11 y10.1)) then
                    some false
                  else
                    Option.bind (g_w_toFloat32S aPoints) fun y12 =>
                    Option.bind (g_i_WeightsAt y12 aX) fun y13 =>
                    Option.bind (g_w_eqFloat32S y13.1 y2.1) fun y14 =>
                    bif (!y14) then
                      some false
                    else
                      bif (!(y13.2.1 == y2.2.1)) then
                        some false
                      else
                        Option.bind (g_w_heldFloat32S y10.2.1 1) fun y15 =>
                        bif (ilt y15 0) then
                          some false
                        else
                          bif (!(ieq y15 y10.1)) then
                            some false
                          else
                            some true


def g_s_l06Count (count : Int) : Option (Bool) :=
  some (t_s_l00In count 1 12)

def t_s_l06Count (count : Int) : Bool :=
  (t_s_l00In count 1 12)

theorem q_s_l06Count (count : Int) : g_s_l06Count count = some (t_s_l06Count count) := rfl


def L_s_l10Pose_1 (rec' : ((List Nat) × Int × Unit) × ((dVec × Unit) × (List dTurn) × (dVec × Unit) × Unit) → Option ((Unit) × ((dVec × Unit) × (List dTurn) × (dVec × Unit) × Unit))) (x : ((List Nat) × Int × Unit) × ((dVec × Unit) × (List dTurn) × (dVec × Unit) × Unit)) : Option ((Unit) × ((dVec × Unit) × (List dTurn) × (dVec × Unit) × Unit)) := match x with
  | ((list, i, ()), ((b0, ()), r1, (b2, ()), ())) =>
    bif (ilt i (((List.length list) : Nat) : Int)) then
      Option.bind (ix i (List.length list)) fun j1 =>
      Option.bind (ix (iadd .i64 i 1) (List.length list)) fun j2 =>
      Option.bind (ix (iadd .i64 i 2) (List.length list)) fun j3 =>
      Option.bind (ix (iadd .i64 i 3) (List.length list)) fun j4 =>
      bif (Nat.ble ((List.length r1) + 1) 4294967296) then
        rec' ((list, ((iadd .i64 i 4), ())), ((b0, ()), ((r1 ++ [((List.getD list j1 (0 : Nat)), ((List.getD list j2 (0 : Nat)), ((List.getD list j3 (0 : Nat)), ((List.getD list j4 (0 : Nat)), ()))))]), ((b2, ()), ()))))
      else
        none
    else
      some ((), ((b0, ()), (r1, ((b2, ()), ()))))

def g_s_l10Pose (list : (List Nat)) : Option (dPose) :=
  Option.bind (ix 0 (List.length list)) fun j1 =>
  Option.bind (ix 1 (List.length list)) fun j2 =>
  Option.bind (ix 2 (List.length list)) fun j3 =>
  Option.bind (iter L_s_l10Pose_1 fuel ((list, (3, ())), (((0, (0, (0, ()))), ()), ([], ((((List.getD list j1 (0 : Nat)), ((List.getD list j2 (0 : Nat)), ((List.getD list j3 (0 : Nat)), ()))), ()), ()))))) fun y4 =>
  some (y4.2.2.2.1.1, (y4.2.2.1, ()))


def g_s_PoseOfNumbers (list : (List Nat)) : Option ((dPose × (Bool × Unit))) :=
  let e1 := (((0, (0, (0, ()))), (([] : List dTurn), ())), (false, ()))
  bif (!(ieq (irem .i64 (((List.length list) : Nat) : Int) 4) 3)) then
    some e1
  else
    bif (!(t_s_l06Count (iquo .i64 (isub .i64 (((List.length list) : Nat) : Int) 3) 4))) then
      some e1
    else
      Option.bind (g_s_l10Pose list) fun y2 =>
      some (y2, (true, ()))


def L_i_PoseOfNumbers_1 (rec' : ((List Nat) × Int × Int × Unit) × ((dVec × Unit) × (dVec × Unit) × (List dTurn) × Unit) → Option ((Unit) × ((dVec × Unit) × (dVec × Unit) × (List dTurn) × Unit))) (x : ((List Nat) × Int × Int × Unit) × ((dVec × Unit) × (dVec × Unit) × (List dTurn) × Unit)) : Option ((Unit) × ((dVec × Unit) × (dVec × Unit) × (List dTurn) × Unit)) := match x with
  | ((list, n, i, ()), ((b0, ()), (b1, ()), r2, ())) =>
    bif (ilt i n) then
      Option.bind (ix i (List.length list)) fun j1 =>
      Option.bind (ix (iadd .i64 i 1) (List.length list)) fun j2 =>
      Option.bind (ix (iadd .i64 i 2) (List.length list)) fun j3 =>
      Option.bind (ix (iadd .i64 i 3) (List.length list)) fun j4 =>
      bif (Nat.ble ((List.length r2) + 1) 4294967296) then
        rec' ((list, (n, ((iadd .i64 i 4), ()))), ((b0, ()), ((b1, ()), ((r2 ++ [((List.getD list j1 (0 : Nat)), ((List.getD list j2 (0 : Nat)), ((List.getD list j3 (0 : Nat)), ((List.getD list j4 (0 : Nat)), ()))))]), ()))))
      else
        none
    else
      some ((), ((b0, ()), ((b1, ()), (r2, ()))))

def g_i_PoseOfNumbers (list : (List Nat)) : Option ((dPose × (Bool × Unit))) :=
  let e1 := (((0, (0, (0, ()))), (([] : List dTurn), ())), (false, ()))
  bif (ilt (((List.length list) : Nat) : Int) 7) then
    some e1
  else
    bif (!(ieq (irem .i64 (isub .i64 (((List.length list) : Nat) : Int) 3) 4) 0)) then
      some e1
    else
      bif (ilt 12 (iquo .i64 (isub .i64 (((List.length list) : Nat) : Int) 3) 4)) then
        some e1
      else
        Option.bind (ix 0 (List.length list)) fun j2 =>
        Option.bind (ix 1 (List.length list)) fun j3 =>
        Option.bind (ix 2 (List.length list)) fun j4 =>
        Option.bind (iter L_i_PoseOfNumbers_1 fuel ((list, ((((List.length list) : Nat) : Int), (3, ()))), (((0, (0, (0, ()))), ()), ((((List.getD list j2 (0 : Nat)), ((List.getD list j3 (0 : Nat)), ((List.getD list j4 (0 : Nat)), ()))), ()), (([] : List dTurn), ()))))) fun y5 =>
        some ((y5.2.2.1.1, (y5.2.2.2.1, ())), (true, ()))


def g_w_eqTurn (a : dTurn) (b : dTurn) : Option (Bool) :=
  bif (!(t_w_sameFloat (fwide a.1) (fwide b.1))) then
    some false
  else
    bif (!(t_w_sameFloat (fwide a.2.1) (fwide b.2.1))) then
      some false
    else
      bif (!(t_w_sameFloat (fwide a.2.2.1) (fwide b.2.2.1))) then
        some false
      else
        bif (!(t_w_sameFloat (fwide a.2.2.2.1) (fwide b.2.2.2.1))) then
          some false
        else
          some true

def t_w_eqTurn (a : dTurn) (b : dTurn) : Bool :=
  bif (!(t_w_sameFloat (fwide a.1) (fwide b.1))) then
    false
  else
    bif (!(t_w_sameFloat (fwide a.2.1) (fwide b.2.1))) then
      false
    else
      bif (!(t_w_sameFloat (fwide a.2.2.1) (fwide b.2.2.1))) then
        false
      else
        bif (!(t_w_sameFloat (fwide a.2.2.2.1) (fwide b.2.2.2.1))) then
          false
        else
          true

theorem q_w_eqTurn (a : dTurn) (b : dTurn) : g_w_eqTurn a b = some (t_w_eqTurn a b) := by
  unfold g_w_eqTurn t_w_eqTurn; simp only [bif_some_some]


def L_w_eqTurnS_1 (rec' : ((List dTurn) × (List dTurn) × Bool × Int × Unit) × (Unit) → Option (Bool × ((Bool × Unit) × (Unit)))) (x : ((List dTurn) × (List dTurn) × Bool × Int × Unit) × (Unit)) : Option (Bool × ((Bool × Unit) × (Unit))) := match x with
  | ((a, b, t4, i, ()), (())) =>
    bif (ilt i (((List.length a) : Nat) : Int)) then
      Option.bind (ix i (List.length a)) fun j1 =>
      Option.bind (ix i (List.length b)) fun j2 =>
      bif (!(t_w_eqTurn (List.getD a j1 zTurn) (List.getD b j2 zTurn))) then
        some (true, ((false, ()), ()))
      else
        rec' ((a, (b, (t4, ((iadd .i64 i 1), ())))), ())
    else
      some (false, ((t4, ()), ()))

def g_w_eqTurnS (a : (List dTurn)) (b : (List dTurn)) : Option (Bool) :=
  bif (!(ieq (((List.length a) : Nat) : Int) (((List.length b) : Nat) : Int))) then
    some false
  else
    Option.bind (iter L_w_eqTurnS_1 fuel ((a, (b, (false, (0, ())))), ())) fun y1 =>
    bif y1.1 then
      some y1.2.1.1
    else
      some true


def g_w_eqPose (a : dPose) (b : dPose) : Option (Bool) :=
  bif (!(t_w_eqVector a.1 b.1)) then
    some false
  else
    Option.bind (g_w_eqTurnS a.2.1 b.2.1) fun y1 =>
    bif (!y1) then
      some false
    else
      some true


def L_w_markTurnS_1 (rec' : (Int × Int × Unit) × ((List dTurn) × Unit) → Option ((Int × Unit) × ((List dTurn) × Unit))) (x : (Int × Int × Unit) × ((List dTurn) × Unit)) : Option ((Int × Unit) × ((List dTurn) × Unit)) := match x with
  | ((k, i, ()), (r0, ())) =>
    bif (ilt i (((List.length r0) : Nat) : Int)) then
      Option.bind (ix i (List.length r0)) fun j1 =>
      let e2 := (List.set r0 j1 ((fofInt .f32 k), (List.getD r0 j1 zTurn).2))
      Option.bind (ix i (List.length e2)) fun j3 =>
      let e4 := (List.getD e2 j3 zTurn)
      let e5 := (List.set e2 j3 (e4.1, ((fofInt .f32 (iadd .i64 k 1)), e4.2.2)))
      Option.bind (ix i (List.length e5)) fun j6 =>
      let e7 := (List.getD e5 j6 zTurn)
      let e8 := (List.set e5 j6 (e7.1, (e7.2.1, ((fofInt .f32 (iadd .i64 (iadd .i64 k 1) 1)), e7.2.2.2))))
      Option.bind (ix i (List.length e8)) fun j9 =>
      let e10 := (List.getD e8 j9 zTurn)
      rec' (((iadd .i64 (iadd .i64 (iadd .i64 (iadd .i64 k 1) 1) 1) 1), ((iadd .i64 i 1), ())), ((List.set e8 j9 (e10.1, (e10.2.1, (e10.2.2.1, ((fofInt .f32 (iadd .i64 (iadd .i64 (iadd .i64 k 1) 1) 1)), ()))))), ()))
    else
      some ((k, ()), (r0, ()))

def g_w_markTurnS (a : (List dTurn)) (k : Int) : Option (Int × ((List dTurn) × Int × Unit)) :=
  Option.bind (iter L_w_markTurnS_1 fuel ((k, (0, ())), (a, ()))) fun y1 =>
  some (y1.1.1, (y1.2.1, (k, ())))


def g_w_markPose (a : dPose) (k : Int) : Option (Int × (dPose × Int × Unit)) :=
  Option.bind (g_w_markTurnS a.2.1 k) fun y1 =>
  some (y1.1, ((a.1, (y1.2.1, ())), (k, ())))


def L_w_heldTurnS_1 (rec' : ((List dTurn) × Int × Int × Int × Unit) × (Unit) → Option (Bool × ((Int × Int × Unit) × (Unit)))) (x : ((List dTurn) × Int × Int × Int × Unit) × (Unit)) : Option (Bool × ((Int × Int × Unit) × (Unit))) := match x with
  | ((a, k, t4, i, ()), (())) =>
    bif (ilt i (((List.length a) : Nat) : Int)) then
      Option.bind (ix i (List.length a)) fun j1 =>
      bif (!(feq .f32 (List.getD a j1 zTurn).1 (fofInt .f32 k))) then
        some (true, ((k, ((-1), ())), ()))
      else
        Option.bind (ix i (List.length a)) fun j2 =>
        bif (!(feq .f32 (List.getD a j2 zTurn).2.1 (fofInt .f32 (iadd .i64 k 1)))) then
          some (true, (((iadd .i64 k 1), ((-1), ())), ()))
        else
          Option.bind (ix i (List.length a)) fun j3 =>
          bif (!(feq .f32 (List.getD a j3 zTurn).2.2.1 (fofInt .f32 (iadd .i64 (iadd .i64 k 1) 1)))) then
            some (true, (((iadd .i64 (iadd .i64 k 1) 1), ((-1), ())), ()))
          else
            Option.bind (ix i (List.length a)) fun j4 =>
            bif (!(feq .f32 (List.getD a j4 zTurn).2.2.2.1 (fofInt .f32 (iadd .i64 (iadd .i64 (iadd .i64 k 1) 1) 1)))) then
              some (true, (((iadd .i64 (iadd .i64 (iadd .i64 k 1) 1) 1), ((-1), ())), ()))
            else
              rec' ((a, ((iadd .i64 (iadd .i64 (iadd .i64 (iadd .i64 k 1) 1) 1) 1), (t4, ((iadd .i64 i 1), ())))), ())
    else
      some (false, ((k, (t4, ())), ()))

def g_w_heldTurnS (a : (List dTurn)) (k : Int) : Option (Int) :=
  Option.bind (iter L_w_heldTurnS_1 fuel ((a, (k, (0, (0, ())))), ())) fun y1 =>
  bif y1.1 then
    some y1.2.1.2.1
  else
    some y1.2.1.1


def g_w_heldPose (a : dPose) (k : Int) : Option (Int) :=
  Option.bind (g_w_heldTurnS a.2.1 k) fun y1 =>
  bif (ilt y1 0) then
    some (-1)
  else
    some y1


def g_w_FnExactPoseOfNumbers (aList : (List Nat)) : Option (Bool) :=
  bif (ilt 1048576 (((List.length aList) : Nat) : Int)) then
    some true
  else
    Option.bind (g_w_toFloat32S aList) fun y1 =>
    Option.bind (g_s_PoseOfNumbers y1) fun y2 =>
    Option.bind (g_w_toFloat32S aList) fun y3 =>
    Option.bind (g_i_PoseOfNumbers y3) fun y4 =>
    Option.bind (g_w_eqPose y4.1 y2.1) fun y5 =>
    bif (!y5) then
      some false
    else
      bif (!(y4.2.1 == y2.2.1)) then
        some false
      else
        Option.bind (g_w_toFloat32S aList) fun y6 =>
        Option.bind (g_w_eqFloat32S y3 y6) fun y7 =>
        bif (!y7) then
          some false
        else
          Option.bind (g_w_markFloat32S y3 1) fun y8 =>
          bif (ilt y8.1 0) then
            some false
          else
            Option.bind (g_w_eqPose y4.1 y2.1) fun y9 =>
            bif (!y9) then
              some false
            else
              bif (!(y4.2.1 == y2.2.1)) then
                some false
              else
                Option.bind (g_w_markPose y4.1 1) fun y10 =>
                let e11 := (g_w_heldPose (y4.1.1, y10.2.1.2) 1)
                Option.bind e11 fun y12 =>
                bif (ilt y12 0) then
                  some false
                else
                  bif (!(ieq y12 y10.1)) then
                    some false
                  else
                    Option.bind (g_w_toFloat32S aList) fun y13 =>
                    Option.bind (g_i_PoseOfNumbers y13) fun y14 =>
                    Option.bind (g_w_eqPose y14.1 y2.1) fun y15 =>
                    bif (!y15) then
                      some false
                    else
                      bif (!(y14.2.1 == y2.2.1)) then
                        some false
                      else
                        Option.bind e11 fun y16 =>
                        bif (ilt y16 0) then
                          some false
                        else
                          bif (!(ieq y16 y10.1)) then
                            some false
                          else
                            some true


def g_w_szBoolS (a : (List Bool)) (left : Int) : Option (Int) :=
  bif (ilt (isub .i64 left (((List.length a) : Nat) : Int)) 0) then
    some (-1)
  else
    some (isub .i64 left (((List.length a) : Nat) : Int))

def t_w_szBoolS (a : (List Bool)) (left : Int) : Int :=
  bif (ilt (isub .i64 left (((List.length a) : Nat) : Int)) 0) then
    (-1)
  else
    (isub .i64 left (((List.length a) : Nat) : Int))

theorem q_w_szBoolS (a : (List Bool)) (left : Int) : g_w_szBoolS a left = some (t_w_szBoolS a left) := by
  unfold g_w_szBoolS t_w_szBoolS; simp only [bif_some_some]


def g_w_szFloat32S (a : (List Nat)) (left : Int) : Option (Int) :=
  bif (ilt (isub .i64 left (((List.length a) : Nat) : Int)) 0) then
    some (-1)
  else
    some (isub .i64 left (((List.length a) : Nat) : Int))

def t_w_szFloat32S (a : (List Nat)) (left : Int) : Int :=
  bif (ilt (isub .i64 left (((List.length a) : Nat) : Int)) 0) then
    (-1)
  else
    (isub .i64 left (((List.length a) : Nat) : Int))

theorem q_w_szFloat32S (a : (List Nat)) (left : Int) : g_w_szFloat32S a left = some (t_w_szFloat32S a left) := by
  unfold g_w_szFloat32S t_w_szFloat32S; simp only [bif_some_some]


def g_w_szString (a : dString) (left : Int) : Option (Int) :=
  let e1 := (t_w_szBoolS a.2.2.1 (t_w_szVectorS a.2.1 (t_w_szVectorS a.1 left)))
  let e2 := (t_w_szFloat32S a.2.2.2.1 e1)
  bif (ilt (t_w_szVectorS a.1 left) 0) then
    some (-1)
  else
    bif (ilt (t_w_szVectorS a.2.1 (t_w_szVectorS a.1 left)) 0) then
      some (-1)
    else
      bif (ilt e1 0) then
        some (-1)
      else
        bif (ilt e2 0) then
          some (-1)
        else
          some e2

def t_w_szString (a : dString) (left : Int) : Int :=
  let e1 := (t_w_szBoolS a.2.2.1 (t_w_szVectorS a.2.1 (t_w_szVectorS a.1 left)))
  let e2 := (t_w_szFloat32S a.2.2.2.1 e1)
  bif (ilt (t_w_szVectorS a.1 left) 0) then
    (-1)
  else
    bif (ilt (t_w_szVectorS a.2.1 (t_w_szVectorS a.1 left)) 0) then
      (-1)
    else
      bif (ilt e1 0) then
        (-1)
      else
        bif (ilt e2 0) then
          (-1)
        else
          e2

theorem q_w_szString (a : dString) (left : Int) : g_w_szString a left = some (t_w_szString a left) := by
  unfold g_w_szString t_w_szString; simp only [bif_some_some]


def L_w_toBoolS_1 (rec' : ((List Bool) × Int × Unit) × ((List Bool) × Unit) → Option ((Unit) × ((List Bool) × Unit))) (x : ((List Bool) × Int × Unit) × ((List Bool) × Unit)) : Option ((Unit) × ((List Bool) × Unit)) := match x with
  | ((a, i, ()), (r0, ())) =>
    bif (ilt i (((List.length a) : Nat) : Int)) then
      Option.bind (ix i (List.length a)) fun j1 =>
      Option.bind (ix i (List.length r0)) fun j2 =>
      rec' ((a, ((iadd .i64 i 1), ())), ((List.set r0 j2 (List.getD a j1 false)), ()))
    else
      some ((), (r0, ()))

def g_w_toBoolS (a : (List Bool)) : Option ((List Bool)) :=
  bif (mkOk (((List.length a) : Nat) : Int) (((List.length a) : Nat) : Int)) then
    Option.bind (iter L_w_toBoolS_1 fuel ((a, (0, ())), ((List.replicate (List.length a) false), ()))) fun y1 =>
    some y1.2.1
  else
    none


def g_w_toString (a : dString) : Option (dString) :=
  Option.bind (g_w_toVectorS a.1) fun y1 =>
  Option.bind (g_w_toVectorS a.2.1) fun y2 =>
  Option.bind (g_w_toBoolS a.2.2.1) fun y3 =>
  Option.bind (g_w_toFloat32S a.2.2.2.1) fun y4 =>
  some (y1, (y2, (y3, (y4, ((t_w_toVector a.2.2.2.2.1), a.2.2.2.2.2)))))


def g_s_l04Points (points : (List dVec)) : Option (Bool) :=
  some (t_s_l00In (((List.length points) : Nat) : Int) 2 16)

def t_s_l04Points (points : (List dVec)) : Bool :=
  (t_s_l00In (((List.length points) : Nat) : Int) 2 16)

theorem q_s_l04Points (points : (List dVec)) : g_s_l04Points points = some (t_s_l04Points points) := rfl


def g_s_l08Is (s : dString) : Option (Bool) :=
  bif (t_s_l04Points s.1) then
    bif (ieq (((List.length s.2.1) : Nat) : Int) (((List.length s.1) : Nat) : Int)) then
      bif (ieq (((List.length s.2.2.1) : Nat) : Int) (((List.length s.1) : Nat) : Int)) then
        bif (ieq (((List.length s.2.2.2.1) : Nat) : Int) (isub .i64 (((List.length s.1) : Nat) : Int) 1)) then
          some (t_s_l00In s.2.2.2.2.2.2.1 0 16)
        else
          some false
      else
        some false
    else
      some false
  else
    some false

def t_s_l08Is (s : dString) : Bool :=
  bif (t_s_l04Points s.1) then
    bif (ieq (((List.length s.2.1) : Nat) : Int) (((List.length s.1) : Nat) : Int)) then
      bif (ieq (((List.length s.2.2.1) : Nat) : Int) (((List.length s.1) : Nat) : Int)) then
        bif (ieq (((List.length s.2.2.2.1) : Nat) : Int) (isub .i64 (((List.length s.1) : Nat) : Int) 1)) then
          (t_s_l00In s.2.2.2.2.2.2.1 0 16)
        else
          false
      else
        false
    else
      false
  else
    false

theorem q_s_l08Is (s : dString) : g_s_l08Is s = some (t_s_l08Is s) := by
  unfold g_s_l08Is t_s_l08Is; simp only [bif_some_some]


def g_s_ValidString (s : dString) : Option (Bool) :=
  some (t_s_l08Is s)

def t_s_ValidString (s : dString) : Bool :=
  (t_s_l08Is s)

theorem q_s_ValidString (s : dString) : g_s_ValidString s = some (t_s_ValidString s) := rfl


def g_i_arePoints (points : (List dVec)) : Option (Bool) :=
  bif (ile 2 (((List.length points) : Nat) : Int)) then
    some (ile (((List.length points) : Nat) : Int) 16)
  else
    some false

def t_i_arePoints (points : (List dVec)) : Bool :=
  bif (ile 2 (((List.length points) : Nat) : Int)) then
    (ile (((List.length points) : Nat) : Int) 16)
  else
    false

theorem q_i_arePoints (points : (List dVec)) : g_i_arePoints points = some (t_i_arePoints points) := by
  unfold g_i_arePoints t_i_arePoints; simp only [bif_some_some]


def g_i_ValidString (s : dString) : Option (Bool) :=
  bif (t_i_arePoints s.1) then
    bif (ieq (((List.length s.2.1) : Nat) : Int) (((List.length s.1) : Nat) : Int)) then
      bif (ieq (((List.length s.2.2.1) : Nat) : Int) (((List.length s.1) : Nat) : Int)) then
        bif (ieq (((List.length s.2.2.2.1) : Nat) : Int) (isub .i64 (((List.length s.1) : Nat) : Int) 1)) then
          bif (ile 0 s.2.2.2.2.2.2.1) then
            some (ile s.2.2.2.2.2.2.1 16)
          else
            some false
        else
          some false
      else
        some false
    else
      some false
  else
    some false

def t_i_ValidString (s : dString) : Bool :=
  bif (t_i_arePoints s.1) then
    bif (ieq (((List.length s.2.1) : Nat) : Int) (((List.length s.1) : Nat) : Int)) then
      bif (ieq (((List.length s.2.2.1) : Nat) : Int) (((List.length s.1) : Nat) : Int)) then
        bif (ieq (((List.length s.2.2.2.1) : Nat) : Int) (isub .i64 (((List.length s.1) : Nat) : Int) 1)) then
          bif (ile 0 s.2.2.2.2.2.2.1) then
            (ile s.2.2.2.2.2.2.1 16)
          else
            false
        else
          false
      else
        false
    else
      false
  else
    false

theorem q_i_ValidString (s : dString) : g_i_ValidString s = some (t_i_ValidString s) := by
  unfold g_i_ValidString t_i_ValidString; simp only [bif_some_some]


def L_w_eqBoolS_1 (rec' : ((List Bool) × (List Bool) × Bool × Int × Unit) × (Unit) → Option (Bool × ((Bool × Unit) × (Unit)))) (x : ((List Bool) × (List Bool) × Bool × Int × Unit) × (Unit)) : Option (Bool × ((Bool × Unit) × (Unit))) := match x with
  | ((a, b, t4, i, ()), (())) =>
    bif (ilt i (((List.length a) : Nat) : Int)) then
      Option.bind (ix i (List.length a)) fun j1 =>
      Option.bind (ix i (List.length b)) fun j2 =>
      bif (!((List.getD a j1 false) == (List.getD b j2 false))) then
        some (true, ((false, ()), ()))
      else
        rec' ((a, (b, (t4, ((iadd .i64 i 1), ())))), ())
    else
      some (false, ((t4, ()), ()))

def g_w_eqBoolS (a : (List Bool)) (b : (List Bool)) : Option (Bool) :=
  bif (!(ieq (((List.length a) : Nat) : Int) (((List.length b) : Nat) : Int))) then
    some false
  else
    Option.bind (iter L_w_eqBoolS_1 fuel ((a, (b, (false, (0, ())))), ())) fun y1 =>
    bif y1.1 then
      some y1.2.1.1
    else
      some true


def g_w_eqString (a : dString) (b : dString) : Option (Bool) :=
  Option.bind (g_w_eqVectorS a.1 b.1) fun y1 =>
  bif (!y1) then
    some false
  else
    Option.bind (g_w_eqVectorS a.2.1 b.2.1) fun y2 =>
    bif (!y2) then
      some false
    else
      Option.bind (g_w_eqBoolS a.2.2.1 b.2.2.1) fun y3 =>
      bif (!y3) then
        some false
      else
        Option.bind (g_w_eqFloat32S a.2.2.2.1 b.2.2.2.1) fun y4 =>
        bif (!y4) then
          some false
        else
          bif (!(t_w_eqVector a.2.2.2.2.1 b.2.2.2.2.1)) then
            some false
          else
            bif (!(t_w_sameFloat (fwide a.2.2.2.2.2.1) (fwide b.2.2.2.2.2.1))) then
              some false
            else
              bif (!(ieq a.2.2.2.2.2.2.1 b.2.2.2.2.2.2.1)) then
                some false
              else
                some true


def g_w_FnExactValidString (aS : dString) : Option (Bool) :=
  bif (ilt (t_w_szString aS 1048576) 0) then
    some true
  else
    Option.bind (g_w_toString aS) fun y1 =>
    Option.bind (g_w_toString aS) fun y2 =>
    bif (!((t_i_ValidString y2) == (t_s_ValidString y1))) then
      some false
    else
      Option.bind (g_w_toString aS) fun y3 =>
      Option.bind (g_w_eqString y2 y3) fun y4 =>
      bif (!y4) then
        some false
      else
        some true


def g_s_l01Less (a : dVec) (b : dVec) : Option (dVec) :=
  some ((fsub .f32 a.1 b.1), ((fsub .f32 a.2.1 b.2.1), ((fsub .f32 a.2.2.1 b.2.2.1), ())))

def t_s_l01Less (a : dVec) (b : dVec) : dVec :=
  ((fsub .f32 a.1 b.1), ((fsub .f32 a.2.1 b.2.1), ((fsub .f32 a.2.2.1 b.2.2.1), ())))

theorem q_s_l01Less (a : dVec) (b : dVec) : g_s_l01Less a b = some (t_s_l01Less a b) := rfl


def g_s_l01Inner (a : dVec) (b : dVec) : Option (Nat) :=
  some (fadd .f32 (fadd .f32 (fmul .f32 a.1 b.1) (fmul .f32 a.2.1 b.2.1)) (fmul .f32 a.2.2.1 b.2.2.1))

def t_s_l01Inner (a : dVec) (b : dVec) : Nat :=
  (fadd .f32 (fadd .f32 (fmul .f32 a.1 b.1) (fmul .f32 a.2.1 b.2.1)) (fmul .f32 a.2.2.1 b.2.2.1))

theorem q_s_l01Inner (a : dVec) (b : dVec) : g_s_l01Inner a b = some (t_s_l01Inner a b) := rfl


def g_math_Sqrt (xx : Nat) : Option (Nat) :=
  some (t_mathsqrt xx)

def t_math_Sqrt (xx : Nat) : Nat :=
  (t_mathsqrt xx)

theorem q_math_Sqrt (xx : Nat) : g_math_Sqrt xx = some (t_math_Sqrt xx) := rfl


def g_s_l01Narrow (xx : Nat) : Option (Nat) :=
  Option.bind (fconv .f64 .f32 xx) fun y1 =>
  some y1


def g_s_l01Sqrt (xx : Nat) : Option (Nat) :=
  Option.bind (g_s_l01Narrow (t_math_Sqrt (fwide xx))) fun y1 =>
  some y1


def g_s_l01Long (v : dVec) : Option (Nat) :=
  Option.bind (g_s_l01Sqrt (t_s_l01Inner v v)) fun y1 =>
  some y1


def L_s_FarthestMove_1 (rec' : ((List dVec) × (List dVec) × Int × Nat × Int × Int × Unit) × (Unit) → Option ((Int × Nat × Unit) × (Unit))) (x : ((List dVec) × (List dVec) × Int × Nat × Int × Int × Unit) × (Unit)) : Option ((Int × Nat × Unit) × (Unit)) := match x with
  | ((a, b, best, most, t35, t36, ()), (())) =>
    let e1 := ((a, (b, (best, (most, (t35, ((iadd .i64 t36 1), ())))))), ())
    bif (ilt t36 t35) then
      Option.bind (ix t36 (List.length b)) fun j2 =>
      Option.bind (ix t36 (List.length a)) fun j3 =>
      Option.bind (g_s_l01Long (t_s_l01Less (List.getD b j2 zVec) (List.getD a j3 zVec))) fun y4 =>
      let e5 := ((a, (b, (t36, (y4, (t35, ((iadd .i64 t36 1), ())))))), ())
      bif (fgt .f32 y4 most) then
        rec' e5
      else
        bif (feq .f32 y4 y4) then
          bif (!(feq .f32 most most)) then
            rec' e5
          else
            rec' e1
        else
          rec' e1
    else
      some ((best, (most, ())), ())

def g_s_FarthestMove (a : (List dVec)) (b : (List dVec)) : Option ((Int × (Nat × (Bool × Unit)))) :=
  bif (ilt (((List.length a) : Nat) : Int) 1) then
    some (0, (0, (false, ())))
  else
    bif (ilt 24 (((List.length a) : Nat) : Int)) then
      some (0, (0, (false, ())))
    else
      bif (!(ieq (((List.length a) : Nat) : Int) (((List.length b) : Nat) : Int))) then
        some (0, (0, (false, ())))
      else
        Option.bind (ix 0 (List.length b)) fun j1 =>
        Option.bind (ix 0 (List.length a)) fun j2 =>
        Option.bind (g_s_l01Long (t_s_l01Less (List.getD b j1 zVec) (List.getD a j2 zVec))) fun y3 =>
        Option.bind (iter L_s_FarthestMove_1 fuel ((a, (b, (0, (y3, ((((List.length a) : Nat) : Int), (0, ())))))), ())) fun y4 =>
        some (y4.1.1, (y4.1.2.1, (true, ())))


def g_i_LessVectors (a : dVec) (b : dVec) : Option (dVec) :=
  some ((fsub .f32 a.1 b.1), ((fsub .f32 a.2.1 b.2.1), ((fsub .f32 a.2.2.1 b.2.2.1), ())))

def t_i_LessVectors (a : dVec) (b : dVec) : dVec :=
  ((fsub .f32 a.1 b.1), ((fsub .f32 a.2.1 b.2.1), ((fsub .f32 a.2.2.1 b.2.2.1), ())))

theorem q_i_LessVectors (a : dVec) (b : dVec) : g_i_LessVectors a b = some (t_i_LessVectors a b) := rfl


def g_i_InnerOf (a : dVec) (b : dVec) : Option (Nat) :=
  some (fadd .f32 (fadd .f32 (fmul .f32 a.1 b.1) (fmul .f32 a.2.1 b.2.1)) (fmul .f32 a.2.2.1 b.2.2.1))

def t_i_InnerOf (a : dVec) (b : dVec) : Nat :=
  (fadd .f32 (fadd .f32 (fmul .f32 a.1 b.1) (fmul .f32 a.2.1 b.2.1)) (fmul .f32 a.2.2.1 b.2.2.1))

theorem q_i_InnerOf (a : dVec) (b : dVec) : g_i_InnerOf a b = some (t_i_InnerOf a b) := rfl


def g_i_RootNumber (xx : Nat) : Option (Nat) :=
  Option.bind (fconv .f64 .f32 (t_math_Sqrt (fwide xx))) fun y1 =>
  some y1


def g_i_LongOf (v : dVec) : Option (Nat) :=
  Option.bind (g_i_RootNumber (t_i_InnerOf v v)) fun y1 =>
  some y1


def L_i_FarthestMove_1 (rec' : ((List dVec) × (List dVec) × Int × Nat × Int × Int × Unit) × (Unit) → Option ((Int × Nat × Unit) × (Unit))) (x : ((List dVec) × (List dVec) × Int × Nat × Int × Int × Unit) × (Unit)) : Option ((Int × Nat × Unit) × (Unit)) := match x with
  | ((a, b, best, most, t35, t36, ()), (())) =>
    let e1 := ((a, (b, (best, (most, (t35, ((iadd .i64 t36 1), ())))))), ())
    bif (ilt t36 t35) then
      Option.bind (ix t36 (List.length b)) fun j2 =>
      Option.bind (ix t36 (List.length a)) fun j3 =>
      Option.bind (g_i_LongOf (t_i_LessVectors (List.getD b j2 zVec) (List.getD a j3 zVec))) fun y4 =>
      let e5 := ((a, (b, (t36, (y4, (t35, ((iadd .i64 t36 1), ())))))), ())
      bif (fgt .f32 y4 most) then
        rec' e5
      else
        bif (!(feq .f32 most most)) then
          bif (feq .f32 y4 y4) then
            rec' e5
          else
            rec' e1
        else
          rec' e1
    else
      some ((best, (most, ())), ())

def g_i_FarthestMove (a : (List dVec)) (b : (List dVec)) : Option ((Int × (Nat × (Bool × Unit)))) :=
  bif (ilt (((List.length a) : Nat) : Int) 1) then
    some (0, (0, (false, ())))
  else
    bif (ilt 24 (((List.length a) : Nat) : Int)) then
      some (0, (0, (false, ())))
    else
      bif (!(ieq (((List.length b) : Nat) : Int) (((List.length a) : Nat) : Int))) then
        some (0, (0, (false, ())))
      else
        Option.bind (ix 0 (List.length b)) fun j1 =>
        Option.bind (ix 0 (List.length a)) fun j2 =>
        Option.bind (g_i_LongOf (t_i_LessVectors (List.getD b j1 zVec) (List.getD a j2 zVec))) fun y3 =>
        Option.bind (iter L_i_FarthestMove_1 fuel ((a, (b, (0, (y3, ((((List.length a) : Nat) : Int), (0, ())))))), ())) fun y4 =>
        some (y4.1.1, (y4.1.2.1, (true, ())))


def g_w_FnExactFarthestMove (aA : (List dVec)) (aB : (List dVec)) : Option (Bool) :=
  bif (ilt (t_w_szVectorS aA 1048576) 0) then
    some true
  else
    bif (ilt (t_w_szVectorS aB (t_w_szVectorS aA 1048576)) 0) then
      some true
    else
      Option.bind (g_w_toVectorS aA) fun y1 =>
      Option.bind (g_w_toVectorS aB) fun y2 =>
      Option.bind (g_s_FarthestMove y1 y2) fun y3 =>
      Option.bind (g_w_toVectorS aA) fun y4 =>
      Option.bind (g_w_toVectorS aB) fun y5 =>
      Option.bind (g_i_FarthestMove y4 y5) fun y6 =>
      bif (!(ieq y6.1 y3.1)) then
        some false
      else
        bif (!(t_w_sameFloat (fwide y6.2.1) (fwide y3.2.1))) then
          some false
        else
          bif (!(y6.2.2.1 == y3.2.2.1)) then
            some false
          else
            Option.bind (g_w_toVectorS aA) fun y7 =>
            Option.bind (g_w_eqVectorS y4 y7) fun y8 =>
            bif (!y8) then
              some false
            else
              Option.bind (g_w_toVectorS aB) fun y9 =>
              Option.bind (g_w_eqVectorS y5 y9) fun y10 =>
              bif (!y10) then
                some false
              else
                some true


def g_w_szTurnS (a : (List dTurn)) (left : Int) : Option (Int) :=
  bif (ilt (isub .i64 left (((List.length a) : Nat) : Int)) 0) then
    some (-1)
  else
    some (isub .i64 left (((List.length a) : Nat) : Int))

def t_w_szTurnS (a : (List dTurn)) (left : Int) : Int :=
  bif (ilt (isub .i64 left (((List.length a) : Nat) : Int)) 0) then
    (-1)
  else
    (isub .i64 left (((List.length a) : Nat) : Int))

theorem q_w_szTurnS (a : (List dTurn)) (left : Int) : g_w_szTurnS a left = some (t_w_szTurnS a left) := by
  unfold g_w_szTurnS t_w_szTurnS; simp only [bif_some_some]


def g_w_szPose (a : dPose) (left : Int) : Option (Int) :=
  bif (ilt (t_w_szTurnS a.2.1 left) 0) then
    some (-1)
  else
    some (t_w_szTurnS a.2.1 left)

def t_w_szPose (a : dPose) (left : Int) : Int :=
  bif (ilt (t_w_szTurnS a.2.1 left) 0) then
    (-1)
  else
    (t_w_szTurnS a.2.1 left)

theorem q_w_szPose (a : dPose) (left : Int) : g_w_szPose a left = some (t_w_szPose a left) := by
  unfold g_w_szPose t_w_szPose; simp only [bif_some_some]


def g_w_toTurn (a : dTurn) : Option (dTurn) :=
  some a

def t_w_toTurn (a : dTurn) : dTurn :=
  a

theorem q_w_toTurn (a : dTurn) : g_w_toTurn a = some (t_w_toTurn a) := rfl


def L_w_toTurnS_1 (rec' : ((List dTurn) × Int × Unit) × ((List dTurn) × Unit) → Option ((Unit) × ((List dTurn) × Unit))) (x : ((List dTurn) × Int × Unit) × ((List dTurn) × Unit)) : Option ((Unit) × ((List dTurn) × Unit)) := match x with
  | ((a, i, ()), (r0, ())) =>
    bif (ilt i (((List.length a) : Nat) : Int)) then
      Option.bind (ix i (List.length a)) fun j1 =>
      Option.bind (ix i (List.length r0)) fun j2 =>
      rec' ((a, ((iadd .i64 i 1), ())), ((List.set r0 j2 (t_w_toTurn (List.getD a j1 zTurn))), ()))
    else
      some ((), (r0, ()))

def g_w_toTurnS (a : (List dTurn)) : Option ((List dTurn)) :=
  bif (mkOk (((List.length a) : Nat) : Int) (((List.length a) : Nat) : Int)) then
    Option.bind (iter L_w_toTurnS_1 fuel ((a, (0, ())), ((List.replicate (List.length a) (0, (0, (0, (0, ()))))), ()))) fun y1 =>
    some y1.2.1
  else
    none


def g_w_toPose (a : dPose) : Option (dPose) :=
  Option.bind (g_w_toTurnS a.2.1) fun y1 =>
  some ((t_w_toVector a.1), (y1, ()))


def g_s_l03Few (p : dPose) : Option (Bool) :=
  bif (ile 1 (((List.length p.2.1) : Nat) : Int)) then
    some (ile (((List.length p.2.1) : Nat) : Int) 12)
  else
    some false

def t_s_l03Few (p : dPose) : Bool :=
  bif (ile 1 (((List.length p.2.1) : Nat) : Int)) then
    (ile (((List.length p.2.1) : Nat) : Int) 12)
  else
    false

theorem q_s_l03Few (p : dPose) : g_s_l03Few p = some (t_s_l03Few p) := by
  unfold g_s_l03Few t_s_l03Few; simp only [bif_some_some]


def g_s_l06List (t : dTurn) : Option ((List Nat)) :=
  some [t.1, t.2.1, t.2.2.1, t.2.2.2.1]

def t_s_l06List (t : dTurn) : (List Nat) :=
  [t.1, t.2.1, t.2.2.1, t.2.2.2.1]

theorem q_s_l06List (t : dTurn) : g_s_l06List t = some (t_s_l06List t) := rfl


def L_s_l10Numbers_1 (rec' : (dPose × Int × Unit) × ((List Nat) × Unit) → Option ((Unit) × ((List Nat) × Unit))) (x : (dPose × Int × Unit) × ((List Nat) × Unit)) : Option ((Unit) × ((List Nat) × Unit)) := match x with
  | ((p, i, ()), (r0, ())) =>
    bif (ilt i (((List.length p.2.1) : Nat) : Int)) then
      Option.bind (ix i (List.length p.2.1)) fun j1 =>
      bif (Nat.ble ((List.length r0) + (List.length (t_s_l06List (List.getD p.2.1 j1 zTurn)))) 4294967296) then
        rec' ((p, ((iadd .i64 i 1), ())), ((r0 ++ (t_s_l06List (List.getD p.2.1 j1 zTurn))), ()))
      else
        none
    else
      some ((), (r0, ()))

def g_s_l10Numbers (p : dPose) : Option ((List Nat)) :=
  Option.bind (iter L_s_l10Numbers_1 fuel ((p, (0, ())), ([p.1.1, p.1.2.1, p.1.2.2.1], ()))) fun y1 =>
  some y1.2.1


def g_s_NumbersOfPose (p : dPose) : Option (((List Nat) × (Bool × Unit))) :=
  bif (!(t_s_l03Few p)) then
    some (([] : List Nat), (false, ()))
  else
    Option.bind (g_s_l10Numbers p) fun y1 =>
    some (y1, (true, ()))


def g_i_isPose (p : dPose) : Option (Bool) :=
  bif (ile 1 (((List.length p.2.1) : Nat) : Int)) then
    some (ile (((List.length p.2.1) : Nat) : Int) 12)
  else
    some false

def t_i_isPose (p : dPose) : Bool :=
  bif (ile 1 (((List.length p.2.1) : Nat) : Int)) then
    (ile (((List.length p.2.1) : Nat) : Int) 12)
  else
    false

theorem q_i_isPose (p : dPose) : g_i_isPose p = some (t_i_isPose p) := by
  unfold g_i_isPose t_i_isPose; simp only [bif_some_some]


def L_i_listed_1 (rec' : ((List dTurn) × Int × Int × Unit) × ((List Nat) × Unit) → Option ((Unit) × ((List Nat) × Unit))) (x : ((List dTurn) × Int × Int × Unit) × ((List Nat) × Unit)) : Option ((Unit) × ((List Nat) × Unit)) := match x with
  | ((t17, t18, t19, ()), (r1, ())) =>
    bif (ilt t19 t18) then
      Option.bind (ix t19 (List.length t17)) fun j1 =>
      bif (Nat.ble ((List.length r1) + 4) 4294967296) then
        rec' ((t17, (t18, ((iadd .i64 t19 1), ()))), ((r1 ++ [(List.getD t17 j1 zTurn).1, (List.getD t17 j1 zTurn).2.1, (List.getD t17 j1 zTurn).2.2.1, (List.getD t17 j1 zTurn).2.2.2.1]), ()))
      else
        none
    else
      some ((), (r1, ()))

def g_i_listed (p : dPose) : Option ((List Nat)) :=
  Option.bind (iter L_i_listed_1 fuel ((p.2.1, ((((List.length p.2.1) : Nat) : Int), (0, ()))), ([p.1.1, p.1.2.1, p.1.2.2.1], ()))) fun y1 =>
  some y1.2.1


def g_i_NumbersOfPose (p : dPose) : Option (((List Nat) × (Bool × Unit))) :=
  bif (!(t_i_isPose p)) then
    some (([] : List Nat), (false, ()))
  else
    Option.bind (g_i_listed p) fun y1 =>
    some (y1, (true, ()))


def g_w_FnExactNumbersOfPose (aP : dPose) : Option (Bool) :=
  bif (ilt (t_w_szPose aP 1048576) 0) then
    some true
  else
    Option.bind (g_w_toPose aP) fun y1 =>
    Option.bind (g_s_NumbersOfPose y1) fun y2 =>
    Option.bind (g_w_toPose aP) fun y3 =>
    Option.bind (g_i_NumbersOfPose y3) fun y4 =>
    Option.bind (g_w_eqFloat32S y4.1 y2.1) fun y5 =>
    bif (!y5) then
      some false
    else
      bif (!(y4.2.1 == y2.2.1)) then
        some false
      else
        Option.bind (g_w_toPose aP) fun y6 =>
        Option.bind (g_w_eqPose y3 y6) fun y7 =>
        bif (!y7) then
          some false
        else
          Option.bind (g_w_markPose y3 1) fun y8 =>
          bif (ilt y8.1 0) then
            some false
          else
            Option.bind (g_w_eqFloat32S y4.1 y2.1) fun y9 =>
            bif (!y9) then
              some false
            else
              bif (!(y4.2.1 == y2.2.1)) then
                some false
              else
                Option.bind (g_w_markFloat32S y4.1 1) fun y10 =>
                Option.bind (g_w_heldFloat32S y10.2.1 1) fun y11 =>
                bif (ilt y11 0) then
                  some false
                else
                  bif (!(ieq y11 y10.1)) then
                    some false
                  else
                    Option.bind (g_w_toPose aP) fun y12 =>
                    Option.bind (g_i_NumbersOfPose y12) fun y13 =>
                    Option.bind (g_w_eqFloat32S y13.1 y2.1) fun y14 =>
                    bif (!y14) then
                      some false
                    else
                      bif (!(y13.2.1 == y2.2.1)) then
                        some false
                      else
                        Option.bind (g_w_heldFloat32S y10.2.1 1) fun y15 =>
                        bif (ilt y15 0) then
                          some false
                        else
                          bif (!(ieq y15 y10.1)) then
                            some false
                          else
                            some true


def L_w_szPoseS_1 (rec' : ((List dPose) × Int × Int × Int × Unit) × (Unit) → Option (Bool × ((Int × Int × Unit) × (Unit)))) (x : ((List dPose) × Int × Int × Int × Unit) × (Unit)) : Option (Bool × ((Int × Int × Unit) × (Unit))) := match x with
  | ((a, left, t4, i, ()), (())) =>
    bif (ilt i (((List.length a) : Nat) : Int)) then
      Option.bind (ix i (List.length a)) fun j1 =>
      bif (ilt (t_w_szPose (List.getD a j1 zPose) left) 0) then
        some (true, (((t_w_szPose (List.getD a j1 zPose) left), ((-1), ())), ()))
      else
        rec' ((a, ((t_w_szPose (List.getD a j1 zPose) left), (t4, ((iadd .i64 i 1), ())))), ())
    else
      some (false, ((left, (t4, ())), ()))

def g_w_szPoseS (a : (List dPose)) (left : Int) : Option (Int) :=
  bif (ilt (isub .i64 left (((List.length a) : Nat) : Int)) 0) then
    some (-1)
  else
    Option.bind (iter L_w_szPoseS_1 fuel ((a, ((isub .i64 left (((List.length a) : Nat) : Int)), (0, (0, ())))), ())) fun y1 =>
    bif y1.1 then
      some y1.2.1.2.1
    else
      some y1.2.1.1


def g_w_szRecording (a : dRec) (left : Int) : Option (Int) :=
  Option.bind (g_w_szPoseS a.2.1 left) fun y1 =>
  bif (ilt y1 0) then
    some (-1)
  else
    some y1


def L_w_toPoseS_1 (rec' : ((List dPose) × Int × Unit) × ((List dPose) × Unit) → Option ((Unit) × ((List dPose) × Unit))) (x : ((List dPose) × Int × Unit) × ((List dPose) × Unit)) : Option ((Unit) × ((List dPose) × Unit)) := match x with
  | ((a, i, ()), (r0, ())) =>
    bif (ilt i (((List.length a) : Nat) : Int)) then
      Option.bind (ix i (List.length a)) fun j1 =>
      Option.bind (g_w_toPose (List.getD a j1 zPose)) fun y2 =>
      Option.bind (ix i (List.length r0)) fun j3 =>
      rec' ((a, ((iadd .i64 i 1), ())), ((List.set r0 j3 y2), ()))
    else
      some ((), (r0, ()))

def g_w_toPoseS (a : (List dPose)) : Option ((List dPose)) :=
  bif (mkOk (((List.length a) : Nat) : Int) (((List.length a) : Nat) : Int)) then
    Option.bind (iter L_w_toPoseS_1 fuel ((a, (0, ())), ((List.replicate (List.length a) ((0, (0, (0, ()))), (([] : List dTurn), ()))), ()))) fun y1 =>
    some y1.2.1
  else
    none


def g_w_toRecording (a : dRec) : Option (dRec) :=
  Option.bind (g_w_toPoseS a.2.1) fun y1 =>
  some (a.1, (y1, ()))


def L_s_l10Is_1 (rec' : (dRec × Bool × Int × Unit) × (Unit) → Option (Bool × ((Bool × Unit) × (Unit)))) (x : (dRec × Bool × Int × Unit) × (Unit)) : Option (Bool × ((Bool × Unit) × (Unit))) := match x with
  | ((r, t2, i, ()), (())) =>
    bif (ilt i (((List.length r.2.1) : Nat) : Int)) then
      Option.bind (ix i (List.length r.2.1)) fun j1 =>
      bif (!(ieq (((List.length (List.getD r.2.1 j1 zPose).2.1) : Nat) : Int) r.1)) then
        some (true, ((false, ()), ()))
      else
        rec' ((r, (t2, ((iadd .i64 i 1), ()))), ())
    else
      some (false, ((t2, ()), ()))

def g_s_l10Is (r : dRec) : Option (Bool) :=
  bif (!(t_s_l06Count r.1)) then
    some false
  else
    bif (ilt 64 (((List.length r.2.1) : Nat) : Int)) then
      some false
    else
      Option.bind (iter L_s_l10Is_1 fuel ((r, (false, (0, ()))), ())) fun y1 =>
      bif y1.1 then
        some y1.2.1.1
      else
        some true


def g_s_ValidRecording (r : dRec) : Option (Bool) :=
  Option.bind (g_s_l10Is r) fun y1 =>
  some y1


def g_i_isCount (count : Int) : Option (Bool) :=
  bif (ile 1 count) then
    some (ile count 12)
  else
    some false

def t_i_isCount (count : Int) : Bool :=
  bif (ile 1 count) then
    (ile count 12)
  else
    false

theorem q_i_isCount (count : Int) : g_i_isCount count = some (t_i_isCount count) := by
  unfold g_i_isCount t_i_isCount; simp only [bif_some_some]


def g_i_ValidRecording_1 (p : dPose) (p1 : dRec) : Option (Bool) :=
  some (!(ieq (((List.length p.2.1) : Nat) : Int) p1.1))

def t_i_ValidRecording_1 (p : dPose) (p1 : dRec) : Bool :=
  (!(ieq (((List.length p.2.1) : Nat) : Int) p1.1))

theorem q_i_ValidRecording_1 (p : dPose) (p1 : dRec) : g_i_ValidRecording_1 p p1 = some (t_i_ValidRecording_1 p p1) := rfl


def L_slices_IndexFunc_i_Pose_i_Pose_1 (rec' : ((List dPose) × (dRec × Unit) × Int × Int × Int × Unit) × (Unit) → Option (Bool × ((Int × Unit) × (Unit)))) (x : ((List dPose) × (dRec × Unit) × Int × Int × Int × Unit) × (Unit)) : Option (Bool × ((Int × Unit) × (Unit))) := match x with
  | ((s, f, t4, t7, t8, ()), (())) =>
    bif (ilt t8 t7) then
      Option.bind (ix t8 (List.length s)) fun j1 =>
      bif (t_i_ValidRecording_1 (List.getD s j1 zPose) f.1) then
        some (true, ((t8, ()), ()))
      else
        rec' ((s, (f, (t4, (t7, ((iadd .i64 t8 1), ()))))), ())
    else
      some (false, ((t4, ()), ()))

def g_slices_IndexFunc_i_Pose_i_Pose (s : (List dPose)) (f : (dRec × Unit)) : Option (Int) :=
  Option.bind (iter L_slices_IndexFunc_i_Pose_i_Pose_1 fuel ((s, (f, (0, ((((List.length s) : Nat) : Int), (0, ()))))), ())) fun y1 =>
  bif y1.1 then
    some y1.2.1.1
  else
    some (-1)


def g_slices_ContainsFunc_i_Pose_i_Pose (s : (List dPose)) (f : (dRec × Unit)) : Option (Bool) :=
  Option.bind (g_slices_IndexFunc_i_Pose_i_Pose s f) fun y1 =>
  some (ile 0 y1)


def g_i_ValidRecording (r : dRec) : Option (Bool) :=
  bif (t_i_isCount r.1) then
    bif (ile (((List.length r.2.1) : Nat) : Int) 64) then
      Option.bind (g_slices_ContainsFunc_i_Pose_i_Pose r.2.1 (r, ())) fun y1 =>
      some (!y1)
    else
      some false
  else
    some false


def L_w_eqPoseS_1 (rec' : ((List dPose) × (List dPose) × Bool × Int × Unit) × (Unit) → Option (Bool × ((Bool × Unit) × (Unit)))) (x : ((List dPose) × (List dPose) × Bool × Int × Unit) × (Unit)) : Option (Bool × ((Bool × Unit) × (Unit))) := match x with
  | ((a, b, t4, i, ()), (())) =>
    bif (ilt i (((List.length a) : Nat) : Int)) then
      Option.bind (ix i (List.length a)) fun j1 =>
      Option.bind (ix i (List.length b)) fun j2 =>
      Option.bind (g_w_eqPose (List.getD a j1 zPose) (List.getD b j2 zPose)) fun y3 =>
      bif (!y3) then
        some (true, ((false, ()), ()))
      else
        rec' ((a, (b, (t4, ((iadd .i64 i 1), ())))), ())
    else
      some (false, ((t4, ()), ()))

def g_w_eqPoseS (a : (List dPose)) (b : (List dPose)) : Option (Bool) :=
  bif (!(ieq (((List.length a) : Nat) : Int) (((List.length b) : Nat) : Int))) then
    some false
  else
    Option.bind (iter L_w_eqPoseS_1 fuel ((a, (b, (false, (0, ())))), ())) fun y1 =>
    bif y1.1 then
      some y1.2.1.1
    else
      some true


def g_w_eqRecording (a : dRec) (b : dRec) : Option (Bool) :=
  bif (!(ieq a.1 b.1)) then
    some false
  else
    Option.bind (g_w_eqPoseS a.2.1 b.2.1) fun y1 =>
    bif (!y1) then
      some false
    else
      some true


def g_w_FnExactValidRecording (aR : dRec) : Option (Bool) :=
  Option.bind (g_w_szRecording aR 1048576) fun y1 =>
  bif (ilt y1 0) then
    some true
  else
    Option.bind (g_w_toRecording aR) fun y2 =>
    Option.bind (g_s_ValidRecording y2) fun y3 =>
    Option.bind (g_w_toRecording aR) fun y4 =>
    Option.bind (g_i_ValidRecording y4) fun y5 =>
    bif (!(y5 == y3)) then
      some false
    else
      Option.bind (g_w_toRecording aR) fun y6 =>
      Option.bind (g_w_eqRecording y4 y6) fun y7 =>
      bif (!y7) then
        some false
      else
        some true


def g_s_l01Bits (xx : Nat) : Option (Int) :=
  bif (!(feq .f32 xx xx)) then
    some 2143289344
  else
    Option.bind (g_float32bits xx) fun y1 =>
    some (iconv .i64 y1)


def g_s_l01Same (a : Nat) (b : Nat) : Option (Bool) :=
  Option.bind (g_s_l01Bits a) fun y1 =>
  Option.bind (g_s_l01Bits b) fun y2 =>
  some (ieq y1 y2)


def L_s_l10Changed_1 (rec' : ((List Nat) × (List Nat) × Int × Unit) × ((List Int) × Unit) → Option ((Unit) × ((List Int) × Unit))) (x : ((List Nat) × (List Nat) × Int × Unit) × ((List Int) × Unit)) : Option ((Unit) × ((List Int) × Unit)) := match x with
  | ((a, b, i, ()), (r0, ())) =>
    let e1 := (a, (b, ((iadd .i64 i 1), ())))
    bif (ilt i (((List.length a) : Nat) : Int)) then
      Option.bind (ix i (List.length a)) fun j2 =>
      Option.bind (ix i (List.length b)) fun j3 =>
      Option.bind (g_s_l01Same (List.getD a j2 (0 : Nat)) (List.getD b j3 (0 : Nat))) fun y4 =>
      bif (!y4) then
        bif (Nat.ble ((List.length r0) + 1) 4294967296) then
          rec' (e1, ((r0 ++ [i]), ()))
        else
          none
      else
        rec' (e1, (r0, ()))
    else
      some ((), (r0, ()))

def g_s_l10Changed (a : (List Nat)) (b : (List Nat)) : Option ((List Int)) :=
  Option.bind (iter L_s_l10Changed_1 fuel ((a, (b, (0, ()))), ([], ()))) fun y1 =>
  some y1.2.1


def g_s_ChangedNumbers (a : dPose) (b : dPose) : Option (((List Int) × (Bool × Unit))) :=
  bif (!(t_s_l03Few a)) then
    some (([] : List Int), (false, ()))
  else
    bif (!(ieq (((List.length a.2.1) : Nat) : Int) (((List.length b.2.1) : Nat) : Int))) then
      some (([] : List Int), (false, ()))
    else
      Option.bind (g_s_l10Numbers a) fun y1 =>
      Option.bind (g_s_l10Numbers b) fun y2 =>
      Option.bind (g_s_l10Changed y1 y2) fun y3 =>
      some (y3, (true, ()))


def g_i_arePair (p : dPose) (q : dPose) : Option (Bool) :=
  bif (t_i_isPose p) then
    some (ieq (((List.length p.2.1) : Nat) : Int) (((List.length q.2.1) : Nat) : Int))
  else
    some false

def t_i_arePair (p : dPose) (q : dPose) : Bool :=
  bif (t_i_isPose p) then
    (ieq (((List.length p.2.1) : Nat) : Int) (((List.length q.2.1) : Nat) : Int))
  else
    false

theorem q_i_arePair (p : dPose) (q : dPose) : g_i_arePair p q = some (t_i_arePair p q) := by
  unfold g_i_arePair t_i_arePair; simp only [bif_some_some]


def g_math_Signbit (xx : Nat) : Option (Bool) :=
  Option.bind (g_float64bits xx) fun y1 =>
  some (ilt (iconv .i64 y1) 0)


def g_i_SameNumber (a : Nat) (b : Nat) : Option (Bool) :=
  bif (!(feq .f32 a a)) then
    bif (!(feq .f32 a a)) then
      some (!(feq .f32 b b))
    else
      some false
  else
    bif (!(feq .f32 b b)) then
      bif (!(feq .f32 a a)) then
        some (!(feq .f32 b b))
      else
        some false
    else
      bif (feq .f32 a b) then
        Option.bind (g_math_Signbit (fwide a)) fun y1 =>
        Option.bind (g_math_Signbit (fwide b)) fun y2 =>
        some (y1 == y2)
      else
        some false


def L_i_changed_1 (rec' : ((List Nat) × (List Nat) × Int × Int × Unit) × ((List Int) × Unit) → Option ((Unit) × ((List Int) × Unit))) (x : ((List Nat) × (List Nat) × Int × Int × Unit) × ((List Int) × Unit)) : Option ((Unit) × ((List Int) × Unit)) := match x with
  | ((a, b, t8, t9, ()), (r0, ())) =>
    let e1 := (a, (b, (t8, ((iadd .i64 t9 1), ()))))
    bif (ilt t9 t8) then
      Option.bind (ix t9 (List.length a)) fun j2 =>
      Option.bind (ix t9 (List.length b)) fun j3 =>
      Option.bind (g_i_SameNumber (List.getD a j2 (0 : Nat)) (List.getD b j3 (0 : Nat))) fun y4 =>
      bif (!y4) then
        bif (Nat.ble ((List.length r0) + 1) 4294967296) then
          rec' (e1, ((r0 ++ [t9]), ()))
        else
          none
      else
        rec' (e1, (r0, ()))
    else
      some ((), (r0, ()))

def g_i_changed (a : (List Nat)) (b : (List Nat)) : Option ((List Int)) :=
  Option.bind (iter L_i_changed_1 fuel ((a, (b, ((((List.length a) : Nat) : Int), (0, ())))), (([] : List Int), ()))) fun y1 =>
  some y1.2.1


def g_i_ChangedNumbers (a : dPose) (b : dPose) : Option (((List Int) × (Bool × Unit))) :=
  bif (!(t_i_arePair a b)) then
    some (([] : List Int), (false, ()))
  else
    Option.bind (g_i_listed a) fun y1 =>
    Option.bind (g_i_listed b) fun y2 =>
    Option.bind (g_i_changed y1 y2) fun y3 =>
    some (y3, (true, ()))


def g_w_FnExactChangedNumbers (aA : dPose) (aB : dPose) : Option (Bool) :=
  bif (ilt (t_w_szPose aA 1048576) 0) then
    some true
  else
    bif (ilt (t_w_szPose aB (t_w_szPose aA 1048576)) 0) then
      some true
    else
      Option.bind (g_w_toPose aA) fun y1 =>
      Option.bind (g_w_toPose aB) fun y2 =>
      Option.bind (g_s_ChangedNumbers y1 y2) fun y3 =>
      Option.bind (g_w_toPose aA) fun y4 =>
      Option.bind (g_w_toPose aB) fun y5 =>
      Option.bind (g_i_ChangedNumbers y4 y5) fun y6 =>
      Option.bind (g_w_eqInt64S y6.1 y3.1) fun y7 =>
      bif (!y7) then
        some false
      else
        bif (!(y6.2.1 == y3.2.1)) then
          some false
        else
          Option.bind (g_w_toPose aA) fun y8 =>
          Option.bind (g_w_eqPose y4 y8) fun y9 =>
          bif (!y9) then
            some false
          else
            Option.bind (g_w_toPose aB) fun y10 =>
            Option.bind (g_w_eqPose y5 y10) fun y11 =>
            bif (!y11) then
              some false
            else
              Option.bind (g_w_markPose y4 1) fun y12 =>
              Option.bind (g_w_markPose y5 y12.1) fun y13 =>
              bif (ilt y13.1 0) then
                some false
              else
                Option.bind (g_w_eqInt64S y6.1 y3.1) fun y14 =>
                bif (!y14) then
                  some false
                else
                  bif (!(y6.2.1 == y3.2.1)) then
                    some false
                  else
                    Option.bind (g_w_markInt64S y6.1 1) fun y15 =>
                    Option.bind (g_w_heldInt64S y15.2.1 1) fun y16 =>
                    bif (ilt y16 0) then
                      some false
                    else
                      bif (!(ieq y16 y15.1)) then
                        some false
                      else
                        Option.bind (g_w_toPose aA) fun y17 =>
                        Option.bind (g_w_toPose aB) fun y18 =>
                        Option.bind (g_i_ChangedNumbers y17 y18) fun y19 =>
                        Option.bind (g_w_eqInt64S y19.1 y3.1) fun y20 =>
                        bif (!y20) then
                          some false
                        else
                          bif (!(y19.2.1 == y3.2.1)) then
                            some false
                          else
                            Option.bind (g_w_heldInt64S y15.2.1 1) fun y21 =>
                            bif (ilt y21 0) then
                              some false
                            else
                              bif (!(ieq y21 y15.1)) then
                                some false
                              else
                                some true


def g_w_szInt64S (a : (List Int)) (left : Int) : Option (Int) :=
  bif (ilt (isub .i64 left (((List.length a) : Nat) : Int)) 0) then
    some (-1)
  else
    some (isub .i64 left (((List.length a) : Nat) : Int))

def t_w_szInt64S (a : (List Int)) (left : Int) : Int :=
  bif (ilt (isub .i64 left (((List.length a) : Nat) : Int)) 0) then
    (-1)
  else
    (isub .i64 left (((List.length a) : Nat) : Int))

theorem q_w_szInt64S (a : (List Int)) (left : Int) : g_w_szInt64S a left = some (t_w_szInt64S a left) := by
  unfold g_w_szInt64S t_w_szInt64S; simp only [bif_some_some]


def L_w_szInt64SS_1 (rec' : ((List (List Int)) × Int × Int × Int × Unit) × (Unit) → Option (Bool × ((Int × Int × Unit) × (Unit)))) (x : ((List (List Int)) × Int × Int × Int × Unit) × (Unit)) : Option (Bool × ((Int × Int × Unit) × (Unit))) := match x with
  | ((a, left, t4, i, ()), (())) =>
    bif (ilt i (((List.length a) : Nat) : Int)) then
      Option.bind (ix i (List.length a)) fun j1 =>
      bif (ilt (t_w_szInt64S (List.getD a j1 []) left) 0) then
        some (true, (((t_w_szInt64S (List.getD a j1 []) left), ((-1), ())), ()))
      else
        rec' ((a, ((t_w_szInt64S (List.getD a j1 []) left), (t4, ((iadd .i64 i 1), ())))), ())
    else
      some (false, ((left, (t4, ())), ()))

def g_w_szInt64SS (a : (List (List Int))) (left : Int) : Option (Int) :=
  bif (ilt (isub .i64 left (((List.length a) : Nat) : Int)) 0) then
    some (-1)
  else
    Option.bind (iter L_w_szInt64SS_1 fuel ((a, ((isub .i64 left (((List.length a) : Nat) : Int)), (0, (0, ())))), ())) fun y1 =>
    bif y1.1 then
      some y1.2.1.2.1
    else
      some y1.2.1.1


def L_w_toInt64S_1 (rec' : ((List Int) × Int × Unit) × ((List Int) × Unit) → Option ((Unit) × ((List Int) × Unit))) (x : ((List Int) × Int × Unit) × ((List Int) × Unit)) : Option ((Unit) × ((List Int) × Unit)) := match x with
  | ((a, i, ()), (r0, ())) =>
    bif (ilt i (((List.length a) : Nat) : Int)) then
      Option.bind (ix i (List.length a)) fun j1 =>
      Option.bind (ix i (List.length r0)) fun j2 =>
      rec' ((a, ((iadd .i64 i 1), ())), ((List.set r0 j2 (List.getD a j1 (0 : Int))), ()))
    else
      some ((), (r0, ()))

def g_w_toInt64S (a : (List Int)) : Option ((List Int)) :=
  bif (mkOk (((List.length a) : Nat) : Int) (((List.length a) : Nat) : Int)) then
    Option.bind (iter L_w_toInt64S_1 fuel ((a, (0, ())), ((List.replicate (List.length a) 0), ()))) fun y1 =>
    some y1.2.1
  else
    none


def L_w_toInt64SS_1 (rec' : ((List (List Int)) × Int × Unit) × ((List (List Int)) × Unit) → Option ((Unit) × ((List (List Int)) × Unit))) (x : ((List (List Int)) × Int × Unit) × ((List (List Int)) × Unit)) : Option ((Unit) × ((List (List Int)) × Unit)) := match x with
  | ((a, i, ()), (r0, ())) =>
    bif (ilt i (((List.length a) : Nat) : Int)) then
      Option.bind (ix i (List.length a)) fun j1 =>
      Option.bind (g_w_toInt64S (List.getD a j1 [])) fun y2 =>
      Option.bind (ix i (List.length r0)) fun j3 =>
      rec' ((a, ((iadd .i64 i 1), ())), ((List.set r0 j3 y2), ()))
    else
      some ((), (r0, ()))

def g_w_toInt64SS (a : (List (List Int))) : Option ((List (List Int))) :=
  bif (mkOk (((List.length a) : Nat) : Int) (((List.length a) : Nat) : Int)) then
    Option.bind (iter L_w_toInt64SS_1 fuel ((a, (0, ())), ((List.replicate (List.length a) ([] : List Int)), ()))) fun y1 =>
    some y1.2.1
  else
    none


def L_s_EdgesOf_1 (rec' : ((List dVec) × (List (List Int)) × Bool × Int × Int × Int × Unit) × ((List Nat) × Unit) → Option (Bool × ((Bool × Unit) × ((List Nat) × Unit)))) (x : ((List dVec) × (List (List Int)) × Bool × Int × Int × Int × Unit) × ((List Nat) × Unit)) : Option (Bool × ((Bool × Unit) × ((List Nat) × Unit))) := match x with
  | ((places, pairs, t5, n, t20, t21, ()), (r0, ())) =>
    let e1 := (true, ((false, ()), (r0, ())))
    bif (ilt t21 t20) then
      Option.bind (ix t21 (List.length pairs)) fun j2 =>
      bif (!(ieq (((List.length (List.getD pairs j2 [])) : Nat) : Int) 2)) then
        some e1
      else
        Option.bind (ix t21 (List.length pairs)) fun j3 =>
        Option.bind (ix 0 (List.length (List.getD pairs j3 []))) fun j4 =>
        bif (!(t_s_l00In (List.getD (List.getD pairs j3 []) j4 (0 : Int)) 0 (isub .i64 n 1))) then
          some e1
        else
          Option.bind (ix t21 (List.length pairs)) fun j5 =>
          Option.bind (ix 1 (List.length (List.getD pairs j5 []))) fun j6 =>
          bif (!(t_s_l00In (List.getD (List.getD pairs j5 []) j6 (0 : Int)) 0 (isub .i64 n 1))) then
            some e1
          else
            Option.bind (ix t21 (List.length pairs)) fun j7 =>
            Option.bind (ix 1 (List.length (List.getD pairs j7 []))) fun j8 =>
            Option.bind (ix (List.getD (List.getD pairs j7 []) j8 (0 : Int)) (List.length places)) fun j9 =>
            Option.bind (ix t21 (List.length pairs)) fun j10 =>
            Option.bind (ix 0 (List.length (List.getD pairs j10 []))) fun j11 =>
            Option.bind (ix (List.getD (List.getD pairs j10 []) j11 (0 : Int)) (List.length places)) fun j12 =>
            Option.bind (g_s_l01Long (t_s_l01Less (List.getD places j9 zVec) (List.getD places j12 zVec))) fun y13 =>
            bif (Nat.ble ((List.length r0) + 1) 4294967296) then
              rec' ((places, (pairs, (t5, (n, (t20, ((iadd .i64 t21 1), ())))))), ((r0 ++ [y13]), ()))
            else
              none
    else
      some (false, ((t5, ()), (r0, ())))

def g_s_EdgesOf (places : (List dVec)) (pairs : (List (List Int))) : Option (((List Nat) × (Bool × Unit))) :=
  bif (ilt 24 (((List.length places) : Nat) : Int)) then
    some (([] : List Nat), (false, ()))
  else
    bif (ilt 64 (((List.length pairs) : Nat) : Int)) then
      some (([] : List Nat), (false, ()))
    else
      Option.bind (iter L_s_EdgesOf_1 fuel ((places, (pairs, (false, ((((List.length places) : Nat) : Int), ((((List.length pairs) : Nat) : Int), (0, ())))))), ([], ()))) fun y1 =>
      bif y1.1 then
        some (([] : List Nat), (y1.2.1.1, ()))
      else
        some (y1.2.2.1, (true, ()))


def g_i_EdgesOf_1 (k : Int) (p1 : (List dVec)) : Option (Bool) :=
  bif (ilt k 0) then
    some true
  else
    some (ile (((List.length p1) : Nat) : Int) k)

def t_i_EdgesOf_1 (k : Int) (p1 : (List dVec)) : Bool :=
  bif (ilt k 0) then
    true
  else
    (ile (((List.length p1) : Nat) : Int) k)

theorem q_i_EdgesOf_1 (k : Int) (p1 : (List dVec)) : g_i_EdgesOf_1 k p1 = some (t_i_EdgesOf_1 k p1) := by
  unfold g_i_EdgesOf_1 t_i_EdgesOf_1; simp only [bif_some_some]


def L_slices_IndexFunc_int64_int64_1 (rec' : ((List Int) × ((List dVec) × Unit) × Int × Int × Int × Unit) × (Unit) → Option (Bool × ((Int × Unit) × (Unit)))) (x : ((List Int) × ((List dVec) × Unit) × Int × Int × Int × Unit) × (Unit)) : Option (Bool × ((Int × Unit) × (Unit))) := match x with
  | ((s, f, t4, t7, t8, ()), (())) =>
    bif (ilt t8 t7) then
      Option.bind (ix t8 (List.length s)) fun j1 =>
      bif (t_i_EdgesOf_1 (List.getD s j1 (0 : Int)) f.1) then
        some (true, ((t8, ()), ()))
      else
        rec' ((s, (f, (t4, (t7, ((iadd .i64 t8 1), ()))))), ())
    else
      some (false, ((t4, ()), ()))

def g_slices_IndexFunc_int64_int64 (s : (List Int)) (f : ((List dVec) × Unit)) : Option (Int) :=
  Option.bind (iter L_slices_IndexFunc_int64_int64_1 fuel ((s, (f, (0, ((((List.length s) : Nat) : Int), (0, ()))))), ())) fun y1 =>
  bif y1.1 then
    some y1.2.1.1
  else
    some (-1)


def g_slices_ContainsFunc_int64_int64 (s : (List Int)) (f : ((List dVec) × Unit)) : Option (Bool) :=
  Option.bind (g_slices_IndexFunc_int64_int64 s f) fun y1 =>
  some (ile 0 y1)


def L_i_EdgesOf_1 (rec' : (Bool × (List (List Int)) × Int × Int × Unit) × (((List dVec) × Unit) × (List Nat) × Unit) → Option (Bool × ((Bool × Unit) × ((List Nat) × Unit)))) (x : (Bool × (List (List Int)) × Int × Int × Unit) × (((List dVec) × Unit) × (List Nat) × Unit)) : Option (Bool × ((Bool × Unit) × ((List Nat) × Unit))) := match x with
  | ((t5, t20, t21, t22, ()), ((b0, ()), r1, ())) =>
    let e1 := (true, ((false, ()), (r1, ())))
    bif (ilt t22 t21) then
      Option.bind (ix t22 (List.length t20)) fun j2 =>
      bif (!(ieq (((List.length (List.getD t20 j2 [])) : Nat) : Int) 2)) then
        some e1
      else
        Option.bind (g_slices_ContainsFunc_int64_int64 (List.getD t20 j2 []) (b0, ())) fun y3 =>
        bif y3 then
          some e1
        else
          Option.bind (ix 1 (List.length (List.getD t20 j2 []))) fun j4 =>
          Option.bind (ix (List.getD (List.getD t20 j2 []) j4 (0 : Int)) (List.length b0)) fun j5 =>
          Option.bind (ix 0 (List.length (List.getD t20 j2 []))) fun j6 =>
          Option.bind (ix (List.getD (List.getD t20 j2 []) j6 (0 : Int)) (List.length b0)) fun j7 =>
          Option.bind (g_i_LongOf (t_i_LessVectors (List.getD b0 j5 zVec) (List.getD b0 j7 zVec))) fun y8 =>
          Option.bind (ix t22 (List.length r1)) fun j9 =>
          rec' ((t5, (t20, (t21, ((iadd .i64 t22 1), ())))), ((b0, ()), ((List.set r1 j9 y8), ())))
    else
      some (false, ((t5, ()), (r1, ())))

def g_i_EdgesOf (places : (List dVec)) (pairs : (List (List Int))) : Option (((List Nat) × (Bool × Unit))) :=
  bif (ilt 24 (((List.length places) : Nat) : Int)) then
    some (([] : List Nat), (false, ()))
  else
    bif (ilt 64 (((List.length pairs) : Nat) : Int)) then
      some (([] : List Nat), (false, ()))
    else
      bif (mkOk (((List.length pairs) : Nat) : Int) (((List.length pairs) : Nat) : Int)) then
        Option.bind (iter L_i_EdgesOf_1 fuel ((false, (pairs, ((((List.length pairs) : Nat) : Int), (0, ())))), ((places, ()), ((List.replicate (List.length pairs) 0), ())))) fun y1 =>
        bif y1.1 then
          some (([] : List Nat), (y1.2.1.1, ()))
        else
          some (y1.2.2.1, (true, ()))
      else
        none


def L_w_markVectorS_1 (rec' : (Int × Int × Unit) × ((List dVec) × Unit) → Option ((Int × Unit) × ((List dVec) × Unit))) (x : (Int × Int × Unit) × ((List dVec) × Unit)) : Option ((Int × Unit) × ((List dVec) × Unit)) := match x with
  | ((k, i, ()), (r0, ())) =>
    bif (ilt i (((List.length r0) : Nat) : Int)) then
      Option.bind (ix i (List.length r0)) fun j1 =>
      let e2 := (List.set r0 j1 ((fofInt .f32 k), (List.getD r0 j1 zVec).2))
      Option.bind (ix i (List.length e2)) fun j3 =>
      let e4 := (List.getD e2 j3 zVec)
      let e5 := (List.set e2 j3 (e4.1, ((fofInt .f32 (iadd .i64 k 1)), e4.2.2)))
      Option.bind (ix i (List.length e5)) fun j6 =>
      let e7 := (List.getD e5 j6 zVec)
      rec' (((iadd .i64 (iadd .i64 (iadd .i64 k 1) 1) 1), ((iadd .i64 i 1), ())), ((List.set e5 j6 (e7.1, (e7.2.1, ((fofInt .f32 (iadd .i64 (iadd .i64 k 1) 1)), ())))), ()))
    else
      some ((k, ()), (r0, ()))

def g_w_markVectorS (a : (List dVec)) (k : Int) : Option (Int × ((List dVec) × Int × Unit)) :=
  Option.bind (iter L_w_markVectorS_1 fuel ((k, (0, ())), (a, ()))) fun y1 =>
  some (y1.1.1, (y1.2.1, (k, ())))


def g_w_FnExactEdgesOf (aPlaces : (List dVec)) (aPairs : (List (List Int))) : Option (Bool) :=
  bif (ilt (t_w_szVectorS aPlaces 1048576) 0) then
    some true
  else
    Option.bind (g_w_szInt64SS aPairs (t_w_szVectorS aPlaces 1048576)) fun y1 =>
    bif (ilt y1 0) then
      some true
    else
      Option.bind (g_w_toVectorS aPlaces) fun y2 =>
      Option.bind (g_w_toInt64SS aPairs) fun y3 =>
      Option.bind (g_s_EdgesOf y2 y3) fun y4 =>
      Option.bind (g_w_toVectorS aPlaces) fun y5 =>
      Option.bind (g_w_toInt64SS aPairs) fun y6 =>
      Option.bind (g_i_EdgesOf y5 y6) fun y7 =>
      Option.bind (g_w_eqFloat32S y7.1 y4.1) fun y8 =>
      bif (!y8) then
        some false
      else
        bif (!(y7.2.1 == y4.2.1)) then
          some false
        else
          Option.bind (g_w_toVectorS aPlaces) fun y9 =>
          Option.bind (g_w_eqVectorS y5 y9) fun y10 =>
          bif (!y10) then
            some false
          else
            Option.bind (g_w_toInt64SS aPairs) fun y11 =>
            Option.bind (g_w_eqInt64SS y6 y11) fun y12 =>
            bif (!y12) then
              some false
            else
              Option.bind (g_w_markVectorS y5 1) fun y13 =>
              Option.bind (g_w_markInt64SS y6 y13.1) fun y14 =>
              bif (ilt y14.1 0) then
                some false
              else
                Option.bind (g_w_eqFloat32S y7.1 y4.1) fun y15 =>
                bif (!y15) then
                  some false
                else
                  bif (!(y7.2.1 == y4.2.1)) then
                    some false
                  else
                    Option.bind (g_w_markFloat32S y7.1 1) fun y16 =>
                    Option.bind (g_w_heldFloat32S y16.2.1 1) fun y17 =>
                    bif (ilt y17 0) then
                      some false
                    else
                      bif (!(ieq y17 y16.1)) then
                        some false
                      else
                        Option.bind (g_w_toVectorS aPlaces) fun y18 =>
                        Option.bind (g_w_toInt64SS aPairs) fun y19 =>
                        Option.bind (g_i_EdgesOf y18 y19) fun y20 =>
                        Option.bind (g_w_eqFloat32S y20.1 y4.1) fun y21 =>
                        bif (!y21) then
                          some false
                        else
                          bif (!(y20.2.1 == y4.2.1)) then
                            some false
                          else
                            Option.bind (g_w_heldFloat32S y16.2.1 1) fun y22 =>
                            bif (ilt y22 0) then
                              some false
                            else
                              bif (!(ieq y22 y16.1)) then
                                some false
                              else
                                some true


def L_s_HangString_1 (rec' : (Int × Nat × Int × Unit) × ((dVec × Unit) × ((dVec × (Nat × (Int × Unit))) × Unit) × (List dVec) × (List Bool) × (List Nat) × ((dVec × (Nat × (Int × Unit))) × Unit) × Unit) → Option ((Unit) × (((dVec × (Nat × (Int × Unit))) × Unit) × (List dVec) × (List Bool) × (List Nat) × ((dVec × (Nat × (Int × Unit))) × Unit) × Unit))) (x : (Int × Nat × Int × Unit) × ((dVec × Unit) × ((dVec × (Nat × (Int × Unit))) × Unit) × (List dVec) × (List Bool) × (List Nat) × ((dVec × (Nat × (Int × Unit))) × Unit) × Unit)) : Option ((Unit) × (((dVec × (Nat × (Int × Unit))) × Unit) × (List dVec) × (List Bool) × (List Nat) × ((dVec × (Nat × (Int × Unit))) × Unit) × Unit)) := match x with
  | ((count, length, i, ()), ((b0, ()), (b1, ()), r2, r3, r4, (b5, ()), ())) =>
    let e1 := (b0.1, ((fsub .f32 b0.2.1 length), b0.2.2))
    bif (ilt i count) then
      bif (Nat.ble ((List.length r2) + 1) 4294967296) then
        bif (Nat.ble ((List.length r3) + 1) 4294967296) then
          bif (Nat.ble ((List.length r4) + 1) 4294967296) then
            rec' ((count, (length, ((iadd .i64 i 1), ()))), ((e1, ()), ((b1, ()), ((r2 ++ [e1]), ((r3 ++ [false]), ((r4 ++ [length]), ((b5, ()), ())))))))
          else
            none
        else
          none
      else
        none
    else
      some ((), ((b1, ()), (r2, (r3, (r4, ((b5, ()), ()))))))

def g_s_HangString (fromx : dVec) (count : Int) (length : Nat) : Option ((dString × (Bool × Unit))) :=
  let e1 := ((0, (0, (0, ()))), (0, (0, ())))
  bif (!(t_s_l00In count 2 16)) then
    some ((([] : List dVec), (([] : List dVec), (([] : List Bool), (([] : List Nat), e1)))), (false, ()))
  else
    Option.bind (iter L_s_HangString_1 fuel ((count, (length, (1, ()))), ((fromx, ()), ((e1, ()), ([fromx], ([true], ([], ((((0, (0, (0, ()))), (1065353216, (4, ()))), ()), ())))))))) fun y2 =>
    bif (Nat.ble (0 + (List.length y2.2.2.1)) 4294967296) then
      some ((y2.2.2.1, (([] ++ y2.2.2.1), (y2.2.2.2.1, (y2.2.2.2.2.1, y2.2.2.2.2.2.1.1)))), (true, ()))
    else
      none


def g_math_bits_Mul64 (xx : Int) (y : Int) : Option ((Int × (Int × Unit))) :=
  let e1 := (iadd .u64 (imul .u64 (ishr .u64 xx 32) (iand .u64 y 4294967295)) (ishr .u64 (imul .u64 (iand .u64 xx 4294967295) (iand .u64 y 4294967295)) 32))
  some ((iadd .u64 (iadd .u64 (imul .u64 (ishr .u64 xx 32) (ishr .u64 y 32)) (ishr .u64 e1 32)) (ishr .u64 (iadd .u64 (iand .u64 e1 4294967295) (imul .u64 (iand .u64 xx 4294967295) (ishr .u64 y 32))) 32)), ((imul .u64 xx y), ()))

def t_math_bits_Mul64 (xx : Int) (y : Int) : (Int × (Int × Unit)) :=
  let e1 := (iadd .u64 (imul .u64 (ishr .u64 xx 32) (iand .u64 y 4294967295)) (ishr .u64 (imul .u64 (iand .u64 xx 4294967295) (iand .u64 y 4294967295)) 32))
  ((iadd .u64 (iadd .u64 (imul .u64 (ishr .u64 xx 32) (ishr .u64 y 32)) (ishr .u64 e1 32)) (ishr .u64 (iadd .u64 (iand .u64 e1 4294967295) (imul .u64 (iand .u64 xx 4294967295) (ishr .u64 y 32))) 32)), ((imul .u64 xx y), ()))

theorem q_math_bits_Mul64 (xx : Int) (y : Int) : g_math_bits_Mul64 xx y = some (t_math_bits_Mul64 xx y) := rfl


def g_math_bits_Mul (xx : Int) (y : Int) : Option ((Int × (Int × Unit))) :=
  some (t_math_bits_Mul64 xx y)

def t_math_bits_Mul (xx : Int) (y : Int) : (Int × (Int × Unit)) :=
  (t_math_bits_Mul64 xx y)

theorem q_math_bits_Mul (xx : Int) (y : Int) : g_math_bits_Mul xx y = some (t_math_bits_Mul xx y) := rfl

end
end Go.Fw
