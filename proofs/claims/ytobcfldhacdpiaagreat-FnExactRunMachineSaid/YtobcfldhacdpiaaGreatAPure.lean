/- What the functions compute, as plain Lean functions. No condition. -/
import Derived.Test.YtobcfldhacdpiaaGreatGenTypes
set_option linter.unusedVariables false
namespace Go.Fw
noncomputable section
def L_w_toFloat32S_1 (rec' : ((List Nat) × Int × Unit) × ((List Nat) × Unit) → Option ((Unit) × ((List Nat) × Unit))) (x : ((List Nat) × Int × Unit) × ((List Nat) × Unit)) : Option ((Unit) × ((List Nat) × Unit)) := match x with
  | ((a, i, ()), (r0, ())) =>
    bif (ilt i (((List.length a) : Nat) : Int)) then
      Option.bind (ix i (List.length a)) fun j1 =>
      Option.bind (ix i (List.length r0)) fun j2 =>
      rec' ((a, ((iadd .i64 i 1), ())), ((List.set r0 j2 (List.getD a j1 (0 : Nat))), ()))
    else
      some ((), (r0, ()))

def g_w_toFloat32S (a : (List Nat)) : Option ((List Nat)) :=
  bif (mkOk (((List.length a) : Nat) : Int) (((List.length a) : Nat) : Int)) then
    Option.bind (iter L_w_toFloat32S_1 fuel ((a, (0, ())), ((List.replicate (List.length a) 0), ()))) fun y1 =>
    some y1.2.1
  else
    none


def g_s_l01Finite (xx : Nat) : Option (Bool) :=
  some (feq .f32 (fsub .f32 xx xx) 0)

def t_s_l01Finite (xx : Nat) : Bool :=
  (feq .f32 (fsub .f32 xx xx) 0)

theorem q_s_l01Finite (xx : Nat) : g_s_l01Finite xx = some (t_s_l01Finite xx) := rfl


def g_i_IsFinite (xx : Nat) : Option (Bool) :=
  some (feq .f32 (fsub .f32 xx xx) 0)

def t_i_IsFinite (xx : Nat) : Bool :=
  (feq .f32 (fsub .f32 xx xx) 0)

theorem q_i_IsFinite (xx : Nat) : g_i_IsFinite xx = some (t_i_IsFinite xx) := rfl


def g_w_sameFloat (a : Nat) (b : Nat) : Option (Bool) :=
  bif (!(feq .f64 a a)) then
    bif (!(feq .f64 a a)) then
      some (!(feq .f64 b b))
    else
      some false
  else
    bif (!(feq .f64 b b)) then
      bif (!(feq .f64 a a)) then
        some (!(feq .f64 b b))
      else
        some false
    else
      bif (feq .f64 a 0) then
        bif (feq .f64 b 0) then
          some ((fgt .f64 (fdiv .f64 4607182418800017408 a) 0) == (fgt .f64 (fdiv .f64 4607182418800017408 b) 0))
        else
          some (feq .f64 a b)
      else
        some (feq .f64 a b)

def t_w_sameFloat (a : Nat) (b : Nat) : Bool :=
  bif (!(feq .f64 a a)) then
    bif (!(feq .f64 a a)) then
      (!(feq .f64 b b))
    else
      false
  else
    bif (!(feq .f64 b b)) then
      bif (!(feq .f64 a a)) then
        (!(feq .f64 b b))
      else
        false
    else
      bif (feq .f64 a 0) then
        bif (feq .f64 b 0) then
          ((fgt .f64 (fdiv .f64 4607182418800017408 a) 0) == (fgt .f64 (fdiv .f64 4607182418800017408 b) 0))
        else
          (feq .f64 a b)
      else
        (feq .f64 a b)

theorem q_w_sameFloat (a : Nat) (b : Nat) : g_w_sameFloat a b = some (t_w_sameFloat a b) := by
  unfold g_w_sameFloat t_w_sameFloat; simp only [bif_some_some]


def L_w_eqFloat32S_1 (rec' : ((List Nat) × (List Nat) × Bool × Int × Unit) × (Unit) → Option (Bool × ((Bool × Unit) × (Unit)))) (x : ((List Nat) × (List Nat) × Bool × Int × Unit) × (Unit)) : Option (Bool × ((Bool × Unit) × (Unit))) := match x with
  | ((a, b, t4, i, ()), (())) =>
    bif (ilt i (((List.length a) : Nat) : Int)) then
      Option.bind (ix i (List.length a)) fun j1 =>
      Option.bind (ix i (List.length b)) fun j2 =>
      bif (!(t_w_sameFloat (fwide (List.getD a j1 (0 : Nat))) (fwide (List.getD b j2 (0 : Nat))))) then
        some (true, ((false, ()), ()))
      else
        rec' ((a, (b, (t4, ((iadd .i64 i 1), ())))), ())
    else
      some (false, ((t4, ()), ()))

def g_w_eqFloat32S (a : (List Nat)) (b : (List Nat)) : Option (Bool) :=
  bif (!(ieq (((List.length a) : Nat) : Int) (((List.length b) : Nat) : Int))) then
    some false
  else
    Option.bind (iter L_w_eqFloat32S_1 fuel ((a, (b, (false, (0, ())))), ())) fun y1 =>
    bif y1.1 then
      some y1.2.1.1
    else
      some true


def g_w_toVector (a : dVec) : Option (dVec) :=
  some a

def t_w_toVector (a : dVec) : dVec :=
  a

theorem q_w_toVector (a : dVec) : g_w_toVector a = some (t_w_toVector a) := rfl


def g_s_l01Add (a : dVec) (b : dVec) : Option (dVec) :=
  some ((fadd .f32 a.1 b.1), ((fadd .f32 a.2.1 b.2.1), ((fadd .f32 a.2.2.1 b.2.2.1), ())))

def t_s_l01Add (a : dVec) (b : dVec) : dVec :=
  ((fadd .f32 a.1 b.1), ((fadd .f32 a.2.1 b.2.1), ((fadd .f32 a.2.2.1 b.2.2.1), ())))

theorem q_s_l01Add (a : dVec) (b : dVec) : g_s_l01Add a b = some (t_s_l01Add a b) := rfl


def g_s_l01Scale (v : dVec) (byx : Nat) : Option (dVec) :=
  some ((fmul .f32 v.1 byx), ((fmul .f32 v.2.1 byx), ((fmul .f32 v.2.2.1 byx), ())))

def t_s_l01Scale (v : dVec) (byx : Nat) : dVec :=
  ((fmul .f32 v.1 byx), ((fmul .f32 v.2.1 byx), ((fmul .f32 v.2.2.1 byx), ())))

theorem q_s_l01Scale (v : dVec) (byx : Nat) : g_s_l01Scale v byx = some (t_s_l01Scale v byx) := rfl


def g_i_AddVectors (a : dVec) (b : dVec) : Option (dVec) :=
  some ((fadd .f32 a.1 b.1), ((fadd .f32 a.2.1 b.2.1), ((fadd .f32 a.2.2.1 b.2.2.1), ())))

def t_i_AddVectors (a : dVec) (b : dVec) : dVec :=
  ((fadd .f32 a.1 b.1), ((fadd .f32 a.2.1 b.2.1), ((fadd .f32 a.2.2.1 b.2.2.1), ())))

theorem q_i_AddVectors (a : dVec) (b : dVec) : g_i_AddVectors a b = some (t_i_AddVectors a b) := rfl


def g_i_ScaleVector (v : dVec) (byx : Nat) : Option (dVec) :=
  some ((fmul .f32 v.1 byx), ((fmul .f32 v.2.1 byx), ((fmul .f32 v.2.2.1 byx), ())))

def t_i_ScaleVector (v : dVec) (byx : Nat) : dVec :=
  ((fmul .f32 v.1 byx), ((fmul .f32 v.2.1 byx), ((fmul .f32 v.2.2.1 byx), ())))

theorem q_i_ScaleVector (v : dVec) (byx : Nat) : g_i_ScaleVector v byx = some (t_i_ScaleVector v byx) := rfl


def g_w_eqVector (a : dVec) (b : dVec) : Option (Bool) :=
  bif (!(t_w_sameFloat (fwide a.1) (fwide b.1))) then
    some false
  else
    bif (!(t_w_sameFloat (fwide a.2.1) (fwide b.2.1))) then
      some false
    else
      bif (!(t_w_sameFloat (fwide a.2.2.1) (fwide b.2.2.1))) then
        some false
      else
        some true

def t_w_eqVector (a : dVec) (b : dVec) : Bool :=
  bif (!(t_w_sameFloat (fwide a.1) (fwide b.1))) then
    false
  else
    bif (!(t_w_sameFloat (fwide a.2.1) (fwide b.2.1))) then
      false
    else
      bif (!(t_w_sameFloat (fwide a.2.2.1) (fwide b.2.2.1))) then
        false
      else
        true

theorem q_w_eqVector (a : dVec) (b : dVec) : g_w_eqVector a b = some (t_w_eqVector a b) := by
  unfold g_w_eqVector t_w_eqVector; simp only [bif_some_some]


def g_s_l00In (n : Int) (low : Int) (high : Int) : Option (Bool) :=
  bif (ile low n) then
    some (ile n high)
  else
    some false

def t_s_l00In (n : Int) (low : Int) (high : Int) : Bool :=
  bif (ile low n) then
    (ile n high)
  else
    false

theorem q_s_l00In (n : Int) (low : Int) (high : Int) : g_s_l00In n low high = some (t_s_l00In n low high) := by
  unfold g_s_l00In t_s_l00In; simp only [bif_some_some]


def L_w_markFloat32S_1 (rec' : (Int × Int × Unit) × ((List Nat) × Unit) → Option ((Int × Unit) × ((List Nat) × Unit))) (x : (Int × Int × Unit) × ((List Nat) × Unit)) : Option ((Int × Unit) × ((List Nat) × Unit)) := match x with
  | ((k, i, ()), (r0, ())) =>
    bif (ilt i (((List.length r0) : Nat) : Int)) then
      Option.bind (ix i (List.length r0)) fun j1 =>
      rec' (((iadd .i64 k 1), ((iadd .i64 i 1), ())), ((List.set r0 j1 (fofInt .f32 k)), ()))
    else
      some ((k, ()), (r0, ()))

def g_w_markFloat32S (a : (List Nat)) (k : Int) : Option (Int × ((List Nat) × Int × Unit)) :=
  Option.bind (iter L_w_markFloat32S_1 fuel ((k, (0, ())), (a, ()))) fun y1 =>
  some (y1.1.1, (y1.2.1, (k, ())))


def g_w_eqTurn (a : dTurn) (b : dTurn) : Option (Bool) :=
  bif (!(t_w_sameFloat (fwide a.1) (fwide b.1))) then
    some false
  else
    bif (!(t_w_sameFloat (fwide a.2.1) (fwide b.2.1))) then
      some false
    else
      bif (!(t_w_sameFloat (fwide a.2.2.1) (fwide b.2.2.1))) then
        some false
      else
        bif (!(t_w_sameFloat (fwide a.2.2.2.1) (fwide b.2.2.2.1))) then
          some false
        else
          some true

def t_w_eqTurn (a : dTurn) (b : dTurn) : Bool :=
  bif (!(t_w_sameFloat (fwide a.1) (fwide b.1))) then
    false
  else
    bif (!(t_w_sameFloat (fwide a.2.1) (fwide b.2.1))) then
      false
    else
      bif (!(t_w_sameFloat (fwide a.2.2.1) (fwide b.2.2.1))) then
        false
      else
        bif (!(t_w_sameFloat (fwide a.2.2.2.1) (fwide b.2.2.2.1))) then
          false
        else
          true

theorem q_w_eqTurn (a : dTurn) (b : dTurn) : g_w_eqTurn a b = some (t_w_eqTurn a b) := by
  unfold g_w_eqTurn t_w_eqTurn; simp only [bif_some_some]


def L_w_eqTurnS_1 (rec' : ((List dTurn) × (List dTurn) × Bool × Int × Unit) × (Unit) → Option (Bool × ((Bool × Unit) × (Unit)))) (x : ((List dTurn) × (List dTurn) × Bool × Int × Unit) × (Unit)) : Option (Bool × ((Bool × Unit) × (Unit))) := match x with
  | ((a, b, t4, i, ()), (())) =>
    bif (ilt i (((List.length a) : Nat) : Int)) then
      Option.bind (ix i (List.length a)) fun j1 =>
      Option.bind (ix i (List.length b)) fun j2 =>
      bif (!(t_w_eqTurn (List.getD a j1 zTurn) (List.getD b j2 zTurn))) then
        some (true, ((false, ()), ()))
      else
        rec' ((a, (b, (t4, ((iadd .i64 i 1), ())))), ())
    else
      some (false, ((t4, ()), ()))

def g_w_eqTurnS (a : (List dTurn)) (b : (List dTurn)) : Option (Bool) :=
  bif (!(ieq (((List.length a) : Nat) : Int) (((List.length b) : Nat) : Int))) then
    some false
  else
    Option.bind (iter L_w_eqTurnS_1 fuel ((a, (b, (false, (0, ())))), ())) fun y1 =>
    bif y1.1 then
      some y1.2.1.1
    else
      some true


def g_w_eqPose (a : dPose) (b : dPose) : Option (Bool) :=
  bif (!(t_w_eqVector a.1 b.1)) then
    some false
  else
    Option.bind (g_w_eqTurnS a.2.1 b.2.1) fun y1 =>
    bif (!y1) then
      some false
    else
      some true


def L_w_markTurnS_1 (rec' : (Int × Int × Unit) × ((List dTurn) × Unit) → Option ((Int × Unit) × ((List dTurn) × Unit))) (x : (Int × Int × Unit) × ((List dTurn) × Unit)) : Option ((Int × Unit) × ((List dTurn) × Unit)) := match x with
  | ((k, i, ()), (r0, ())) =>
    bif (ilt i (((List.length r0) : Nat) : Int)) then
      Option.bind (ix i (List.length r0)) fun j1 =>
      let e2 := (List.set r0 j1 ((fofInt .f32 k), (List.getD r0 j1 zTurn).2))
      Option.bind (ix i (List.length e2)) fun j3 =>
      let e4 := (List.getD e2 j3 zTurn)
      let e5 := (List.set e2 j3 (e4.1, ((fofInt .f32 (iadd .i64 k 1)), e4.2.2)))
      Option.bind (ix i (List.length e5)) fun j6 =>
      let e7 := (List.getD e5 j6 zTurn)
      let e8 := (List.set e5 j6 (e7.1, (e7.2.1, ((fofInt .f32 (iadd .i64 (iadd .i64 k 1) 1)), e7.2.2.2))))
      Option.bind (ix i (List.length e8)) fun j9 =>
      let e10 := (List.getD e8 j9 zTurn)
      rec' (((iadd .i64 (iadd .i64 (iadd .i64 (iadd .i64 k 1) 1) 1) 1), ((iadd .i64 i 1), ())), ((List.set e8 j9 (e10.1, (e10.2.1, (e10.2.2.1, ((fofInt .f32 (iadd .i64 (iadd .i64 (iadd .i64 k 1) 1) 1)), ()))))), ()))
    else
      some ((k, ()), (r0, ()))

def g_w_markTurnS (a : (List dTurn)) (k : Int) : Option (Int × ((List dTurn) × Int × Unit)) :=
  Option.bind (iter L_w_markTurnS_1 fuel ((k, (0, ())), (a, ()))) fun y1 =>
  some (y1.1.1, (y1.2.1, (k, ())))


def L_w_heldTurnS_1 (rec' : ((List dTurn) × Int × Int × Int × Unit) × (Unit) → Option (Bool × ((Int × Int × Unit) × (Unit)))) (x : ((List dTurn) × Int × Int × Int × Unit) × (Unit)) : Option (Bool × ((Int × Int × Unit) × (Unit))) := match x with
  | ((a, k, t4, i, ()), (())) =>
    bif (ilt i (((List.length a) : Nat) : Int)) then
      Option.bind (ix i (List.length a)) fun j1 =>
      bif (!(feq .f32 (List.getD a j1 zTurn).1 (fofInt .f32 k))) then
        some (true, ((k, ((-1), ())), ()))
      else
        Option.bind (ix i (List.length a)) fun j2 =>
        bif (!(feq .f32 (List.getD a j2 zTurn).2.1 (fofInt .f32 (iadd .i64 k 1)))) then
          some (true, (((iadd .i64 k 1), ((-1), ())), ()))
        else
          Option.bind (ix i (List.length a)) fun j3 =>
          bif (!(feq .f32 (List.getD a j3 zTurn).2.2.1 (fofInt .f32 (iadd .i64 (iadd .i64 k 1) 1)))) then
            some (true, (((iadd .i64 (iadd .i64 k 1) 1), ((-1), ())), ()))
          else
            Option.bind (ix i (List.length a)) fun j4 =>
            bif (!(feq .f32 (List.getD a j4 zTurn).2.2.2.1 (fofInt .f32 (iadd .i64 (iadd .i64 (iadd .i64 k 1) 1) 1)))) then
              some (true, (((iadd .i64 (iadd .i64 (iadd .i64 k 1) 1) 1), ((-1), ())), ()))
            else
              rec' ((a, ((iadd .i64 (iadd .i64 (iadd .i64 (iadd .i64 k 1) 1) 1) 1), (t4, ((iadd .i64 i 1), ())))), ())
    else
      some (false, ((k, (t4, ())), ()))

def g_w_heldTurnS (a : (List dTurn)) (k : Int) : Option (Int) :=
  Option.bind (iter L_w_heldTurnS_1 fuel ((a, (k, (0, (0, ())))), ())) fun y1 =>
  bif y1.1 then
    some y1.2.1.2.1
  else
    some y1.2.1.1


def g_w_szFloat32S (a : (List Nat)) (left : Int) : Option (Int) :=
  bif (ilt (isub .i64 left (((List.length a) : Nat) : Int)) 0) then
    some (-1)
  else
    some (isub .i64 left (((List.length a) : Nat) : Int))

def t_w_szFloat32S (a : (List Nat)) (left : Int) : Int :=
  bif (ilt (isub .i64 left (((List.length a) : Nat) : Int)) 0) then
    (-1)
  else
    (isub .i64 left (((List.length a) : Nat) : Int))

theorem q_w_szFloat32S (a : (List Nat)) (left : Int) : g_w_szFloat32S a left = some (t_w_szFloat32S a left) := by
  unfold g_w_szFloat32S t_w_szFloat32S; simp only [bif_some_some]


def g_s_l01Less (a : dVec) (b : dVec) : Option (dVec) :=
  some ((fsub .f32 a.1 b.1), ((fsub .f32 a.2.1 b.2.1), ((fsub .f32 a.2.2.1 b.2.2.1), ())))

def t_s_l01Less (a : dVec) (b : dVec) : dVec :=
  ((fsub .f32 a.1 b.1), ((fsub .f32 a.2.1 b.2.1), ((fsub .f32 a.2.2.1 b.2.2.1), ())))

theorem q_s_l01Less (a : dVec) (b : dVec) : g_s_l01Less a b = some (t_s_l01Less a b) := rfl


def g_math_Sqrt (xx : Nat) : Option (Nat) :=
  some (t_mathsqrt xx)

def t_math_Sqrt (xx : Nat) : Nat :=
  (t_mathsqrt xx)

theorem q_math_Sqrt (xx : Nat) : g_math_Sqrt xx = some (t_math_Sqrt xx) := rfl


def g_s_l01Narrow (xx : Nat) : Option (Nat) :=
  Option.bind (fconv .f64 .f32 xx) fun y1 =>
  some y1


def g_s_l01Sqrt (xx : Nat) : Option (Nat) :=
  Option.bind (g_s_l01Narrow (t_math_Sqrt (fwide xx))) fun y1 =>
  some y1


def g_i_LessVectors (a : dVec) (b : dVec) : Option (dVec) :=
  some ((fsub .f32 a.1 b.1), ((fsub .f32 a.2.1 b.2.1), ((fsub .f32 a.2.2.1 b.2.2.1), ())))

def t_i_LessVectors (a : dVec) (b : dVec) : dVec :=
  ((fsub .f32 a.1 b.1), ((fsub .f32 a.2.1 b.2.1), ((fsub .f32 a.2.2.1 b.2.2.1), ())))

theorem q_i_LessVectors (a : dVec) (b : dVec) : g_i_LessVectors a b = some (t_i_LessVectors a b) := rfl


def g_i_RootNumber (xx : Nat) : Option (Nat) :=
  Option.bind (fconv .f64 .f32 (t_math_Sqrt (fwide xx))) fun y1 =>
  some y1


def g_w_toTurn (a : dTurn) : Option (dTurn) :=
  some a

def t_w_toTurn (a : dTurn) : dTurn :=
  a

theorem q_w_toTurn (a : dTurn) : g_w_toTurn a = some (t_w_toTurn a) := rfl


def t_s_l03Few (p : dPose) : Bool :=
  bif (ile 1 (((List.length p.2.1) : Nat) : Int)) then
    (ile (((List.length p.2.1) : Nat) : Int) 12)
  else
    false

def g_i_isPose (p : dPose) : Option (Bool) :=
  bif (ile 1 (((List.length p.2.1) : Nat) : Int)) then
    some (ile (((List.length p.2.1) : Nat) : Int) 12)
  else
    some false

def t_i_isPose (p : dPose) : Bool :=
  bif (ile 1 (((List.length p.2.1) : Nat) : Int)) then
    (ile (((List.length p.2.1) : Nat) : Int) 12)
  else
    false

theorem q_i_isPose (p : dPose) : g_i_isPose p = some (t_i_isPose p) := by
  unfold g_i_isPose t_i_isPose; simp only [bif_some_some]


def L_w_eqPoseS_1 (rec' : ((List dPose) × (List dPose) × Bool × Int × Unit) × (Unit) → Option (Bool × ((Bool × Unit) × (Unit)))) (x : ((List dPose) × (List dPose) × Bool × Int × Unit) × (Unit)) : Option (Bool × ((Bool × Unit) × (Unit))) := match x with
  | ((a, b, t4, i, ()), (())) =>
    bif (ilt i (((List.length a) : Nat) : Int)) then
      Option.bind (ix i (List.length a)) fun j1 =>
      Option.bind (ix i (List.length b)) fun j2 =>
      Option.bind (g_w_eqPose (List.getD a j1 zPose) (List.getD b j2 zPose)) fun y3 =>
      bif (!y3) then
        some (true, ((false, ()), ()))
      else
        rec' ((a, (b, (t4, ((iadd .i64 i 1), ())))), ())
    else
      some (false, ((t4, ()), ()))

def g_w_eqPoseS (a : (List dPose)) (b : (List dPose)) : Option (Bool) :=
  bif (!(ieq (((List.length a) : Nat) : Int) (((List.length b) : Nat) : Int))) then
    some false
  else
    Option.bind (iter L_w_eqPoseS_1 fuel ((a, (b, (false, (0, ())))), ())) fun y1 =>
    bif y1.1 then
      some y1.2.1.1
    else
      some true


def g_i_arePair (p : dPose) (q : dPose) : Option (Bool) :=
  bif (t_i_isPose p) then
    some (ieq (((List.length p.2.1) : Nat) : Int) (((List.length q.2.1) : Nat) : Int))
  else
    some false

def t_i_arePair (p : dPose) (q : dPose) : Bool :=
  bif (t_i_isPose p) then
    (ieq (((List.length p.2.1) : Nat) : Int) (((List.length q.2.1) : Nat) : Int))
  else
    false

theorem q_i_arePair (p : dPose) (q : dPose) : g_i_arePair p q = some (t_i_arePair p q) := by
  unfold g_i_arePair t_i_arePair; simp only [bif_some_some]


def g_math_bits_Mul64 (xx : Int) (y : Int) : Option ((Int × (Int × Unit))) :=
  let e1 := (iadd .u64 (imul .u64 (ishr .u64 xx 32) (iand .u64 y 4294967295)) (ishr .u64 (imul .u64 (iand .u64 xx 4294967295) (iand .u64 y 4294967295)) 32))
  some ((iadd .u64 (iadd .u64 (imul .u64 (ishr .u64 xx 32) (ishr .u64 y 32)) (ishr .u64 e1 32)) (ishr .u64 (iadd .u64 (iand .u64 e1 4294967295) (imul .u64 (iand .u64 xx 4294967295) (ishr .u64 y 32))) 32)), ((imul .u64 xx y), ()))

def t_math_bits_Mul64 (xx : Int) (y : Int) : (Int × (Int × Unit)) :=
  let e1 := (iadd .u64 (imul .u64 (ishr .u64 xx 32) (iand .u64 y 4294967295)) (ishr .u64 (imul .u64 (iand .u64 xx 4294967295) (iand .u64 y 4294967295)) 32))
  ((iadd .u64 (iadd .u64 (imul .u64 (ishr .u64 xx 32) (ishr .u64 y 32)) (ishr .u64 e1 32)) (ishr .u64 (iadd .u64 (iand .u64 e1 4294967295) (imul .u64 (iand .u64 xx 4294967295) (ishr .u64 y 32))) 32)), ((imul .u64 xx y), ()))

theorem q_math_bits_Mul64 (xx : Int) (y : Int) : g_math_bits_Mul64 xx y = some (t_math_bits_Mul64 xx y) := rfl


def g_math_bits_Mul (xx : Int) (y : Int) : Option ((Int × (Int × Unit))) :=
  some (t_math_bits_Mul64 xx y)

def t_math_bits_Mul (xx : Int) (y : Int) : (Int × (Int × Unit)) :=
  (t_math_bits_Mul64 xx y)

theorem q_math_bits_Mul (xx : Int) (y : Int) : g_math_bits_Mul xx y = some (t_math_bits_Mul xx y) := rfl


end
end Go.Fw
