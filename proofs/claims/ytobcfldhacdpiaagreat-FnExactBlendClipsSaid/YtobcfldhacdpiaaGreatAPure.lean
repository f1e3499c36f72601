/- What the functions compute, as plain Lean functions. No condition. -/
import Derived.Test.YtobcfldhacdpiaaGreatGenTypes
set_option linter.unusedVariables false
namespace Go.Fw
noncomputable section
def L_w_toFloat32S_1 (rec' : ((List Nat) × Int × Unit) × ((List Nat) × Unit) → Option ((Unit) × ((List Nat) × Unit))) (x : ((List Nat) × Int × Unit) × ((List Nat) × Unit)) : Option ((Unit) × ((List Nat) × Unit)) := match x with
  | ((a, i, ()), (r0, ())) =>
    bif (ilt i (((List.length a) : Nat) : Int)) then
      Option.bind (ix i (List.length a)) fun j1 =>
      Option.bind (ix i (List.length r0)) fun j2 =>
      rec' ((a, ((iadd .i64 i 1), ())), ((List.set r0 j2 (List.getD a j1 (0 : Nat))), ()))
    else
      some ((), (r0, ()))

def g_w_toFloat32S (a : (List Nat)) : Option ((List Nat)) :=
  bif (mkOk (((List.length a) : Nat) : Int) (((List.length a) : Nat) : Int)) then
    Option.bind (iter L_w_toFloat32S_1 fuel ((a, (0, ())), ((List.replicate (List.length a) 0), ()))) fun y1 =>
    some y1.2.1
  else
    none


def g_s_l01Finite (xx : Nat) : Option (Bool) :=
  some (feq .f32 (fsub .f32 xx xx) 0)

def t_s_l01Finite (xx : Nat) : Bool :=
  (feq .f32 (fsub .f32 xx xx) 0)

theorem q_s_l01Finite (xx : Nat) : g_s_l01Finite xx = some (t_s_l01Finite xx) := rfl


def L_s_l07Scale_1 (rec' : ((List Nat) × Bool × Int × Int × Unit) × (Unit) → Option (Bool × (((List Nat) × Bool × Unit) × (Unit)))) (x : ((List Nat) × Bool × Int × Int × Unit) × (Unit)) : Option (Bool × (((List Nat) × Bool × Unit) × (Unit))) := match x with
  | ((points, t2, t5, t6, ()), (())) =>
    let e1 := (true, ((points, (false, ())), ()))
    let e2 := ((points, (t2, (t5, ((iadd .i64 t6 1), ())))), ())
    bif (ilt t6 t5) then
      Option.bind (ix t6 (List.length points)) fun j3 =>
      bif (!(t_s_l01Finite (List.getD points j3 (0 : Nat)))) then
        some e1
      else
        bif (ilt 0 t6) then
          Option.bind (ix (isub .i64 t6 1) (List.length points)) fun j4 =>
          Option.bind (ix t6 (List.length points)) fun j5 =>
          bif (fge .f32 (List.getD points j4 (0 : Nat)) (List.getD points j5 (0 : Nat))) then
            some e1
          else
            rec' e2
        else
          rec' e2
    else
      some (false, ((points, (t2, ())), ()))

def g_s_l07Scale (points : (List Nat)) : Option (Bool) :=
  Option.bind (iter L_s_l07Scale_1 fuel ((points, (false, ((((List.length points) : Nat) : Int), (0, ())))), ())) fun y1 =>
  bif y1.1 then
    some y1.2.1.2.1
  else
    bif (ile 1 (((List.length y1.2.1.1) : Nat) : Int)) then
      some (ile (((List.length y1.2.1.1) : Nat) : Int) 6)
    else
      some false


def g_i_IsFinite (xx : Nat) : Option (Bool) :=
  some (feq .f32 (fsub .f32 xx xx) 0)

def t_i_IsFinite (xx : Nat) : Bool :=
  (feq .f32 (fsub .f32 xx xx) 0)

theorem q_i_IsFinite (xx : Nat) : g_i_IsFinite xx = some (t_i_IsFinite xx) := rfl


def L_i_IsScale_1 (rec' : ((List Nat) × Bool × (List Nat) × Int × Int × Unit) × (Unit) → Option (Bool × (((List Nat) × Bool × Unit) × (Unit)))) (x : ((List Nat) × Bool × (List Nat) × Int × Int × Unit) × (Unit)) : Option (Bool × (((List Nat) × Bool × Unit) × (Unit))) := match x with
  | ((points, t2, t5, t6, t7, ()), (())) =>
    let e1 := (true, ((points, (false, ())), ()))
    let e2 := ((points, (t2, (t5, (t6, ((iadd .i64 t7 1), ()))))), ())
    bif (ilt t7 t6) then
      Option.bind (ix t7 (List.length t5)) fun j3 =>
      bif (!(t_i_IsFinite (List.getD t5 j3 (0 : Nat)))) then
        some e1
      else
        bif (ilt 0 t7) then
          Option.bind (ix (isub .i64 t7 1) (List.length points)) fun j4 =>
          bif (fge .f32 (List.getD points j4 (0 : Nat)) (List.getD t5 j3 (0 : Nat))) then
            some e1
          else
            rec' e2
        else
          rec' e2
    else
      some (false, ((points, (t2, ())), ()))

def g_i_IsScale (points : (List Nat)) : Option (Bool) :=
  Option.bind (iter L_i_IsScale_1 fuel ((points, (false, (points, ((((List.length points) : Nat) : Int), (0, ()))))), ())) fun y1 =>
  bif y1.1 then
    some y1.2.1.2.1
  else
    bif (ile 1 (((List.length y1.2.1.1) : Nat) : Int)) then
      some (ile (((List.length y1.2.1.1) : Nat) : Int) 6)
    else
      some false


def g_w_sameFloat (a : Nat) (b : Nat) : Option (Bool) :=
  bif (!(feq .f64 a a)) then
    bif (!(feq .f64 a a)) then
      some (!(feq .f64 b b))
    else
      some false
  else
    bif (!(feq .f64 b b)) then
      bif (!(feq .f64 a a)) then
        some (!(feq .f64 b b))
      else
        some false
    else
      bif (feq .f64 a 0) then
        bif (feq .f64 b 0) then
          some ((fgt .f64 (fdiv .f64 4607182418800017408 a) 0) == (fgt .f64 (fdiv .f64 4607182418800017408 b) 0))
        else
          some (feq .f64 a b)
      else
        some (feq .f64 a b)

def t_w_sameFloat (a : Nat) (b : Nat) : Bool :=
  bif (!(feq .f64 a a)) then
    bif (!(feq .f64 a a)) then
      (!(feq .f64 b b))
    else
      false
  else
    bif (!(feq .f64 b b)) then
      bif (!(feq .f64 a a)) then
        (!(feq .f64 b b))
      else
        false
    else
      bif (feq .f64 a 0) then
        bif (feq .f64 b 0) then
          ((fgt .f64 (fdiv .f64 4607182418800017408 a) 0) == (fgt .f64 (fdiv .f64 4607182418800017408 b) 0))
        else
          (feq .f64 a b)
      else
        (feq .f64 a b)

theorem q_w_sameFloat (a : Nat) (b : Nat) : g_w_sameFloat a b = some (t_w_sameFloat a b) := by
  unfold g_w_sameFloat t_w_sameFloat; simp only [bif_some_some]


def L_w_eqFloat32S_1 (rec' : ((List Nat) × (List Nat) × Bool × Int × Unit) × (Unit) → Option (Bool × ((Bool × Unit) × (Unit)))) (x : ((List Nat) × (List Nat) × Bool × Int × Unit) × (Unit)) : Option (Bool × ((Bool × Unit) × (Unit))) := match x with
  | ((a, b, t4, i, ()), (())) =>
    bif (ilt i (((List.length a) : Nat) : Int)) then
      Option.bind (ix i (List.length a)) fun j1 =>
      Option.bind (ix i (List.length b)) fun j2 =>
      bif (!(t_w_sameFloat (fwide (List.getD a j1 (0 : Nat))) (fwide (List.getD b j2 (0 : Nat))))) then
        some (true, ((false, ()), ()))
      else
        rec' ((a, (b, (t4, ((iadd .i64 i 1), ())))), ())
    else
      some (false, ((t4, ()), ()))

def g_w_eqFloat32S (a : (List Nat)) (b : (List Nat)) : Option (Bool) :=
  bif (!(ieq (((List.length a) : Nat) : Int) (((List.length b) : Nat) : Int))) then
    some false
  else
    Option.bind (iter L_w_eqFloat32S_1 fuel ((a, (b, (false, (0, ())))), ())) fun y1 =>
    bif y1.1 then
      some y1.2.1.1
    else
      some true


def g_w_toVector (a : dVec) : Option (dVec) :=
  some a

def t_w_toVector (a : dVec) : dVec :=
  a

theorem q_w_toVector (a : dVec) : g_w_toVector a = some (t_w_toVector a) := rfl


def g_s_l01Add (a : dVec) (b : dVec) : Option (dVec) :=
  some ((fadd .f32 a.1 b.1), ((fadd .f32 a.2.1 b.2.1), ((fadd .f32 a.2.2.1 b.2.2.1), ())))

def t_s_l01Add (a : dVec) (b : dVec) : dVec :=
  ((fadd .f32 a.1 b.1), ((fadd .f32 a.2.1 b.2.1), ((fadd .f32 a.2.2.1 b.2.2.1), ())))

theorem q_s_l01Add (a : dVec) (b : dVec) : g_s_l01Add a b = some (t_s_l01Add a b) := rfl


def g_s_l01Scale (v : dVec) (byx : Nat) : Option (dVec) :=
  some ((fmul .f32 v.1 byx), ((fmul .f32 v.2.1 byx), ((fmul .f32 v.2.2.1 byx), ())))

def t_s_l01Scale (v : dVec) (byx : Nat) : dVec :=
  ((fmul .f32 v.1 byx), ((fmul .f32 v.2.1 byx), ((fmul .f32 v.2.2.1 byx), ())))

theorem q_s_l01Scale (v : dVec) (byx : Nat) : g_s_l01Scale v byx = some (t_s_l01Scale v byx) := rfl


def g_i_AddVectors (a : dVec) (b : dVec) : Option (dVec) :=
  some ((fadd .f32 a.1 b.1), ((fadd .f32 a.2.1 b.2.1), ((fadd .f32 a.2.2.1 b.2.2.1), ())))

def t_i_AddVectors (a : dVec) (b : dVec) : dVec :=
  ((fadd .f32 a.1 b.1), ((fadd .f32 a.2.1 b.2.1), ((fadd .f32 a.2.2.1 b.2.2.1), ())))

theorem q_i_AddVectors (a : dVec) (b : dVec) : g_i_AddVectors a b = some (t_i_AddVectors a b) := rfl


def g_i_ScaleVector (v : dVec) (byx : Nat) : Option (dVec) :=
  some ((fmul .f32 v.1 byx), ((fmul .f32 v.2.1 byx), ((fmul .f32 v.2.2.1 byx), ())))

def t_i_ScaleVector (v : dVec) (byx : Nat) : dVec :=
  ((fmul .f32 v.1 byx), ((fmul .f32 v.2.1 byx), ((fmul .f32 v.2.2.1 byx), ())))

theorem q_i_ScaleVector (v : dVec) (byx : Nat) : g_i_ScaleVector v byx = some (t_i_ScaleVector v byx) := rfl


def g_w_eqVector (a : dVec) (b : dVec) : Option (Bool) :=
  bif (!(t_w_sameFloat (fwide a.1) (fwide b.1))) then
    some false
  else
    bif (!(t_w_sameFloat (fwide a.2.1) (fwide b.2.1))) then
      some false
    else
      bif (!(t_w_sameFloat (fwide a.2.2.1) (fwide b.2.2.1))) then
        some false
      else
        some true

def t_w_eqVector (a : dVec) (b : dVec) : Bool :=
  bif (!(t_w_sameFloat (fwide a.1) (fwide b.1))) then
    false
  else
    bif (!(t_w_sameFloat (fwide a.2.1) (fwide b.2.1))) then
      false
    else
      bif (!(t_w_sameFloat (fwide a.2.2.1) (fwide b.2.2.1))) then
        false
      else
        true

theorem q_w_eqVector (a : dVec) (b : dVec) : g_w_eqVector a b = some (t_w_eqVector a b) := by
  unfold g_w_eqVector t_w_eqVector; simp only [bif_some_some]


def g_s_l00In (n : Int) (low : Int) (high : Int) : Option (Bool) :=
  bif (ile low n) then
    some (ile n high)
  else
    some false

def t_s_l00In (n : Int) (low : Int) (high : Int) : Bool :=
  bif (ile low n) then
    (ile n high)
  else
    false

theorem q_s_l00In (n : Int) (low : Int) (high : Int) : g_s_l00In n low high = some (t_s_l00In n low high) := by
  unfold g_s_l00In t_s_l00In; simp only [bif_some_some]


def L_s_l07Weights_1 (rec' : ((List Nat) × Nat × Int × Unit) × ((List Nat) × Unit) → Option (((List Nat) × Nat × Int × Unit) × ((List Nat) × Unit))) (x : ((List Nat) × Nat × Int × Unit) × ((List Nat) × Unit)) : Option (((List Nat) × Nat × Int × Unit) × ((List Nat) × Unit)) := match x with
  | ((points, xx, i, ()), (r0, ())) =>
    Option.bind (ix (iadd .i64 i 1) (List.length points)) fun j1 =>
    bif (fle .f32 (List.getD points j1 (0 : Nat)) xx) then
      rec' ((points, (xx, ((iadd .i64 i 1), ()))), (r0, ()))
    else
      some ((points, (xx, (i, ()))), (r0, ()))

def g_s_l07Weights (points : (List Nat)) (xx : Nat) : Option ((List Nat)) :=
  bif (mkOk (((List.length points) : Nat) : Int) (((List.length points) : Nat) : Int)) then
    Option.bind (ix 0 (List.length points)) fun j1 =>
    bif (fle .f32 xx (List.getD points j1 (0 : Nat))) then
      Option.bind (ix 0 (List.length (List.replicate (List.length points) 0))) fun j2 =>
      some (List.set (List.replicate (List.length points) 0) j2 1065353216)
    else
      Option.bind (ix (isub .i64 (((List.length points) : Nat) : Int) 1) (List.length points)) fun j3 =>
      bif (fge .f32 xx (List.getD points j3 (0 : Nat))) then
        Option.bind (ix (isub .i64 (((List.length points) : Nat) : Int) 1) (List.length (List.replicate (List.length points) 0))) fun j4 =>
        some (List.set (List.replicate (List.length points) 0) j4 1065353216)
      else
        Option.bind (iter L_s_l07Weights_1 fuel ((points, (xx, (0, ()))), ((List.replicate (List.length points) 0), ()))) fun y5 =>
        let e6 := (ix y5.1.2.2.1 (List.length y5.1.1))
        Option.bind e6 fun j7 =>
        Option.bind (ix (iadd .i64 y5.1.2.2.1 1) (List.length y5.1.1)) fun j8 =>
        Option.bind e6 fun j9 =>
        let e10 := (fdiv .f32 (fsub .f32 y5.1.2.1 (List.getD y5.1.1 j7 (0 : Nat))) (fsub .f32 (List.getD y5.1.1 j8 (0 : Nat)) (List.getD y5.1.1 j9 (0 : Nat))))
        Option.bind (ix y5.1.2.2.1 (List.length y5.2.1)) fun j11 =>
        let e12 := (List.set y5.2.1 j11 (fsub .f32 1065353216 e10))
        Option.bind (ix (iadd .i64 y5.1.2.2.1 1) (List.length e12)) fun j13 =>
        some (List.set e12 j13 e10)
  else
    none


def g_s_WeightsAt (points : (List Nat)) (xx : Nat) : Option (((List Nat) × (Bool × Unit))) :=
  Option.bind (g_s_l07Scale points) fun y1 =>
  bif (!y1) then
    some (([] : List Nat), (false, ()))
  else
    bif (!(feq .f32 xx xx)) then
      some (([] : List Nat), (false, ()))
    else
      Option.bind (g_s_l07Weights points xx) fun y2 =>
      some (y2, (true, ()))


def L_i_WeightsAt_1 (rec' : ((List Nat) × Nat × Int × Unit) × ((List Nat) × Unit) → Option (((List Nat) × Nat × Int × Unit) × ((List Nat) × Unit))) (x : ((List Nat) × Nat × Int × Unit) × ((List Nat) × Unit)) : Option (((List Nat) × Nat × Int × Unit) × ((List Nat) × Unit)) := match x with
  | ((points, xx, i, ()), (r0, ())) =>
    Option.bind (ix (iadd .i64 i 1) (List.length points)) fun j1 =>
    bif (fge .f32 xx (List.getD points j1 (0 : Nat))) then
      rec' ((points, (xx, ((iadd .i64 i 1), ()))), (r0, ()))
    else
      some ((points, (xx, (i, ()))), (r0, ()))

def g_i_WeightsAt (points : (List Nat)) (xx : Nat) : Option (((List Nat) × (Bool × Unit))) :=
  Option.bind (g_i_IsScale points) fun y1 =>
  bif (!y1) then
    some (([] : List Nat), (false, ()))
  else
    bif (!(feq .f32 xx xx)) then
      some (([] : List Nat), (false, ()))
    else
      bif (mkOk (((List.length points) : Nat) : Int) (((List.length points) : Nat) : Int)) then
        Option.bind (ix 0 (List.length points)) fun j2 =>
        bif (fle .f32 xx (List.getD points j2 (0 : Nat))) then
          Option.bind (ix 0 (List.length (List.replicate (List.length points) 0))) fun j3 =>
          some ((List.set (List.replicate (List.length points) 0) j3 1065353216), (true, ()))
        else
          Option.bind (ix (isub .i64 (((List.length points) : Nat) : Int) 1) (List.length points)) fun j4 =>
          bif (fge .f32 xx (List.getD points j4 (0 : Nat))) then
            Option.bind (ix (isub .i64 (((List.length points) : Nat) : Int) 1) (List.length (List.replicate (List.length points) 0))) fun j5 =>
            some ((List.set (List.replicate (List.length points) 0) j5 1065353216), (true, ()))
          else
            Option.bind (iter L_i_WeightsAt_1 fuel ((points, (xx, (0, ()))), ((List.replicate (List.length points) 0), ()))) fun y6 =>
            let e7 := (ix y6.1.2.2.1 (List.length y6.1.1))
            Option.bind e7 fun j8 =>
            Option.bind (ix (iadd .i64 y6.1.2.2.1 1) (List.length y6.1.1)) fun j9 =>
            Option.bind e7 fun j10 =>
            let e11 := (fdiv .f32 (fsub .f32 y6.1.2.1 (List.getD y6.1.1 j8 (0 : Nat))) (fsub .f32 (List.getD y6.1.1 j9 (0 : Nat)) (List.getD y6.1.1 j10 (0 : Nat))))
            Option.bind (ix y6.1.2.2.1 (List.length y6.2.1)) fun j12 =>
            let e13 := (List.set y6.2.1 j12 (fsub .f32 1065353216 e11))
            Option.bind (ix (iadd .i64 y6.1.2.2.1 1) (List.length e13)) fun j14 =>
            some ((List.set e13 j14 e11), (true, ()))
      else
        none


def L_w_markFloat32S_1 (rec' : (Int × Int × Unit) × ((List Nat) × Unit) → Option ((Int × Unit) × ((List Nat) × Unit))) (x : (Int × Int × Unit) × ((List Nat) × Unit)) : Option ((Int × Unit) × ((List Nat) × Unit)) := match x with
  | ((k, i, ()), (r0, ())) =>
    bif (ilt i (((List.length r0) : Nat) : Int)) then
      Option.bind (ix i (List.length r0)) fun j1 =>
      rec' (((iadd .i64 k 1), ((iadd .i64 i 1), ())), ((List.set r0 j1 (fofInt .f32 k)), ()))
    else
      some ((k, ()), (r0, ()))

def g_w_markFloat32S (a : (List Nat)) (k : Int) : Option (Int × ((List Nat) × Int × Unit)) :=
  Option.bind (iter L_w_markFloat32S_1 fuel ((k, (0, ())), (a, ()))) fun y1 =>
  some (y1.1.1, (y1.2.1, (k, ())))


def g_w_eqTurn (a : dTurn) (b : dTurn) : Option (Bool) :=
  bif (!(t_w_sameFloat (fwide a.1) (fwide b.1))) then
    some false
  else
    bif (!(t_w_sameFloat (fwide a.2.1) (fwide b.2.1))) then
      some false
    else
      bif (!(t_w_sameFloat (fwide a.2.2.1) (fwide b.2.2.1))) then
        some false
      else
        bif (!(t_w_sameFloat (fwide a.2.2.2.1) (fwide b.2.2.2.1))) then
          some false
        else
          some true

def t_w_eqTurn (a : dTurn) (b : dTurn) : Bool :=
  bif (!(t_w_sameFloat (fwide a.1) (fwide b.1))) then
    false
  else
    bif (!(t_w_sameFloat (fwide a.2.1) (fwide b.2.1))) then
      false
    else
      bif (!(t_w_sameFloat (fwide a.2.2.1) (fwide b.2.2.1))) then
        false
      else
        bif (!(t_w_sameFloat (fwide a.2.2.2.1) (fwide b.2.2.2.1))) then
          false
        else
          true

theorem q_w_eqTurn (a : dTurn) (b : dTurn) : g_w_eqTurn a b = some (t_w_eqTurn a b) := by
  unfold g_w_eqTurn t_w_eqTurn; simp only [bif_some_some]


def L_w_eqTurnS_1 (rec' : ((List dTurn) × (List dTurn) × Bool × Int × Unit) × (Unit) → Option (Bool × ((Bool × Unit) × (Unit)))) (x : ((List dTurn) × (List dTurn) × Bool × Int × Unit) × (Unit)) : Option (Bool × ((Bool × Unit) × (Unit))) := match x with
  | ((a, b, t4, i, ()), (())) =>
    bif (ilt i (((List.length a) : Nat) : Int)) then
      Option.bind (ix i (List.length a)) fun j1 =>
      Option.bind (ix i (List.length b)) fun j2 =>
      bif (!(t_w_eqTurn (List.getD a j1 zTurn) (List.getD b j2 zTurn))) then
        some (true, ((false, ()), ()))
      else
        rec' ((a, (b, (t4, ((iadd .i64 i 1), ())))), ())
    else
      some (false, ((t4, ()), ()))

def g_w_eqTurnS (a : (List dTurn)) (b : (List dTurn)) : Option (Bool) :=
  bif (!(ieq (((List.length a) : Nat) : Int) (((List.length b) : Nat) : Int))) then
    some false
  else
    Option.bind (iter L_w_eqTurnS_1 fuel ((a, (b, (false, (0, ())))), ())) fun y1 =>
    bif y1.1 then
      some y1.2.1.1
    else
      some true


def g_w_eqPose (a : dPose) (b : dPose) : Option (Bool) :=
  bif (!(t_w_eqVector a.1 b.1)) then
    some false
  else
    Option.bind (g_w_eqTurnS a.2.1 b.2.1) fun y1 =>
    bif (!y1) then
      some false
    else
      some true


def L_w_markTurnS_1 (rec' : (Int × Int × Unit) × ((List dTurn) × Unit) → Option ((Int × Unit) × ((List dTurn) × Unit))) (x : (Int × Int × Unit) × ((List dTurn) × Unit)) : Option ((Int × Unit) × ((List dTurn) × Unit)) := match x with
  | ((k, i, ()), (r0, ())) =>
    bif (ilt i (((List.length r0) : Nat) : Int)) then
      Option.bind (ix i (List.length r0)) fun j1 =>
      let e2 := (List.set r0 j1 ((fofInt .f32 k), (List.getD r0 j1 zTurn).2))
      Option.bind (ix i (List.length e2)) fun j3 =>
      let e4 := (List.getD e2 j3 zTurn)
      let e5 := (List.set e2 j3 (e4.1, ((fofInt .f32 (iadd .i64 k 1)), e4.2.2)))
      Option.bind (ix i (List.length e5)) fun j6 =>
      let e7 := (List.getD e5 j6 zTurn)
      let e8 := (List.set e5 j6 (e7.1, (e7.2.1, ((fofInt .f32 (iadd .i64 (iadd .i64 k 1) 1)), e7.2.2.2))))
      Option.bind (ix i (List.length e8)) fun j9 =>
      let e10 := (List.getD e8 j9 zTurn)
      rec' (((iadd .i64 (iadd .i64 (iadd .i64 (iadd .i64 k 1) 1) 1) 1), ((iadd .i64 i 1), ())), ((List.set e8 j9 (e10.1, (e10.2.1, (e10.2.2.1, ((fofInt .f32 (iadd .i64 (iadd .i64 (iadd .i64 k 1) 1) 1)), ()))))), ()))
    else
      some ((k, ()), (r0, ()))

def g_w_markTurnS (a : (List dTurn)) (k : Int) : Option (Int × ((List dTurn) × Int × Unit)) :=
  Option.bind (iter L_w_markTurnS_1 fuel ((k, (0, ())), (a, ()))) fun y1 =>
  some (y1.1.1, (y1.2.1, (k, ())))


def g_w_markPose (a : dPose) (k : Int) : Option (Int × (dPose × Int × Unit)) :=
  Option.bind (g_w_markTurnS a.2.1 k) fun y1 =>
  some (y1.1, ((a.1, (y1.2.1, ())), (k, ())))


def L_w_heldTurnS_1 (rec' : ((List dTurn) × Int × Int × Int × Unit) × (Unit) → Option (Bool × ((Int × Int × Unit) × (Unit)))) (x : ((List dTurn) × Int × Int × Int × Unit) × (Unit)) : Option (Bool × ((Int × Int × Unit) × (Unit))) := match x with
  | ((a, k, t4, i, ()), (())) =>
    bif (ilt i (((List.length a) : Nat) : Int)) then
      Option.bind (ix i (List.length a)) fun j1 =>
      bif (!(feq .f32 (List.getD a j1 zTurn).1 (fofInt .f32 k))) then
        some (true, ((k, ((-1), ())), ()))
      else
        Option.bind (ix i (List.length a)) fun j2 =>
        bif (!(feq .f32 (List.getD a j2 zTurn).2.1 (fofInt .f32 (iadd .i64 k 1)))) then
          some (true, (((iadd .i64 k 1), ((-1), ())), ()))
        else
          Option.bind (ix i (List.length a)) fun j3 =>
          bif (!(feq .f32 (List.getD a j3 zTurn).2.2.1 (fofInt .f32 (iadd .i64 (iadd .i64 k 1) 1)))) then
            some (true, (((iadd .i64 (iadd .i64 k 1) 1), ((-1), ())), ()))
          else
            Option.bind (ix i (List.length a)) fun j4 =>
            bif (!(feq .f32 (List.getD a j4 zTurn).2.2.2.1 (fofInt .f32 (iadd .i64 (iadd .i64 (iadd .i64 k 1) 1) 1)))) then
              some (true, (((iadd .i64 (iadd .i64 (iadd .i64 k 1) 1) 1), ((-1), ())), ()))
            else
              rec' ((a, ((iadd .i64 (iadd .i64 (iadd .i64 (iadd .i64 k 1) 1) 1) 1), (t4, ((iadd .i64 i 1), ())))), ())
    else
      some (false, ((k, (t4, ())), ()))

def g_w_heldTurnS (a : (List dTurn)) (k : Int) : Option (Int) :=
  Option.bind (iter L_w_heldTurnS_1 fuel ((a, (k, (0, (0, ())))), ())) fun y1 =>
  bif y1.1 then
    some y1.2.1.2.1
  else
    some y1.2.1.1


def g_w_heldPose (a : dPose) (k : Int) : Option (Int) :=
  Option.bind (g_w_heldTurnS a.2.1 k) fun y1 =>
  bif (ilt y1 0) then
    some (-1)
  else
    some y1


def g_s_l01Less (a : dVec) (b : dVec) : Option (dVec) :=
  some ((fsub .f32 a.1 b.1), ((fsub .f32 a.2.1 b.2.1), ((fsub .f32 a.2.2.1 b.2.2.1), ())))

def t_s_l01Less (a : dVec) (b : dVec) : dVec :=
  ((fsub .f32 a.1 b.1), ((fsub .f32 a.2.1 b.2.1), ((fsub .f32 a.2.2.1 b.2.2.1), ())))

theorem q_s_l01Less (a : dVec) (b : dVec) : g_s_l01Less a b = some (t_s_l01Less a b) := rfl


def g_math_Sqrt (xx : Nat) : Option (Nat) :=
  some (t_mathsqrt xx)

def t_math_Sqrt (xx : Nat) : Nat :=
  (t_mathsqrt xx)

theorem q_math_Sqrt (xx : Nat) : g_math_Sqrt xx = some (t_math_Sqrt xx) := rfl


def g_s_l01Narrow (xx : Nat) : Option (Nat) :=
  Option.bind (fconv .f64 .f32 xx) fun y1 =>
  some y1


def g_s_l01Sqrt (xx : Nat) : Option (Nat) :=
  Option.bind (g_s_l01Narrow (t_math_Sqrt (fwide xx))) fun y1 =>
  some y1


def g_i_LessVectors (a : dVec) (b : dVec) : Option (dVec) :=
  some ((fsub .f32 a.1 b.1), ((fsub .f32 a.2.1 b.2.1), ((fsub .f32 a.2.2.1 b.2.2.1), ())))

def t_i_LessVectors (a : dVec) (b : dVec) : dVec :=
  ((fsub .f32 a.1 b.1), ((fsub .f32 a.2.1 b.2.1), ((fsub .f32 a.2.2.1 b.2.2.1), ())))

theorem q_i_LessVectors (a : dVec) (b : dVec) : g_i_LessVectors a b = some (t_i_LessVectors a b) := rfl


def g_i_RootNumber (xx : Nat) : Option (Nat) :=
  Option.bind (fconv .f64 .f32 (t_math_Sqrt (fwide xx))) fun y1 =>
  some y1


def g_w_toTurn (a : dTurn) : Option (dTurn) :=
  some a

def t_w_toTurn (a : dTurn) : dTurn :=
  a

theorem q_w_toTurn (a : dTurn) : g_w_toTurn a = some (t_w_toTurn a) := rfl


end
end Go.Fw
