/- What the functions compute, as plain Lean functions. No condition. -/
import Derived.Test.YtijmellgdjcofaaAPure
set_option linter.unusedVariables false
namespace Go.Fw
noncomputable section
def g_s_l01VSame (a : dVec) (b : dVec) : Option (Bool) :=
  Option.bind (g_s_l01Same a.1 b.1) fun y1 =>
  bif y1 then
    Option.bind (g_s_l01Same a.2.1 b.2.1) fun y2 =>
    bif y2 then
      Option.bind (g_s_l01Same a.2.2.1 b.2.2.1) fun y3 =>
      some y3
    else
      some false
  else
    some false


def g_s_l02Same (a : dTurn) (b : dTurn) : Option (Bool) :=
  Option.bind (g_s_l01Same a.1 b.1) fun y1 =>
  bif y1 then
    Option.bind (g_s_l01Same a.2.1 b.2.1) fun y2 =>
    bif y2 then
      Option.bind (g_s_l01Same a.2.2.1 b.2.2.1) fun y3 =>
      bif y3 then
        Option.bind (g_s_l01Same a.2.2.2.1 b.2.2.2.1) fun y4 =>
        some y4
      else
        some false
    else
      some false
  else
    some false


def L_s_l03Same_1 (rec' : (dPose × dPose × Bool × Int × Int × Unit) × (Unit) → Option (Bool × ((Bool × Unit) × (Unit)))) (x : (dPose × dPose × Bool × Int × Int × Unit) × (Unit)) : Option (Bool × ((Bool × Unit) × (Unit))) := match x with
  | ((p, q, t4, t33, t34, ()), (())) =>
    bif (ilt t34 t33) then
      Option.bind (ix t34 (List.length p.2.1)) fun j1 =>
      Option.bind (ix t34 (List.length q.2.1)) fun j2 =>
      Option.bind (g_s_l02Same (List.getD p.2.1 j1 zTurn) (List.getD q.2.1 j2 zTurn)) fun y3 =>
      bif (!y3) then
        some (true, ((false, ()), ()))
      else
        rec' ((p, (q, (t4, (t33, ((iadd .i64 t34 1), ()))))), ())
    else
      some (false, ((t4, ()), ()))

def g_s_l03Same (p : dPose) (q : dPose) : Option (Bool) :=
  Option.bind (g_s_l01VSame p.1 q.1) fun y1 =>
  bif (!y1) then
    some false
  else
    bif (!(ieq (((List.length p.2.1) : Nat) : Int) (((List.length q.2.1) : Nat) : Int))) then
      some false
    else
      Option.bind (iter L_s_l03Same_1 fuel ((p, (q, (false, ((((List.length p.2.1) : Nat) : Int), (0, ()))))), ())) fun y2 =>
      bif y2.1 then
        some y2.2.1.1
      else
        some true


def L_s_SameRecording_1 (rec' : (Bool × Int × Unit) × ((dRec × Unit) × (dRec × Unit) × Unit) → Option (Bool × ((Bool × Unit) × (Unit)))) (x : (Bool × Int × Unit) × ((dRec × Unit) × (dRec × Unit) × Unit)) : Option (Bool × ((Bool × Unit) × (Unit))) := match x with
  | ((t4, i, ()), ((b0, ()), (b1, ()), ())) =>
    bif (ilt i (((List.length b0.2.1) : Nat) : Int)) then
      Option.bind (ix i (List.length b0.2.1)) fun j1 =>
      Option.bind (ix i (List.length b1.2.1)) fun j2 =>
      Option.bind (g_s_l03Same (List.getD b0.2.1 j1 zPose) (List.getD b1.2.1 j2 zPose)) fun y3 =>
      bif (!y3) then
        some (true, ((false, ()), ()))
      else
        rec' ((t4, ((iadd .i64 i 1), ())), ((b0, ()), ((b1, ()), ())))
    else
      some (false, ((t4, ()), ()))

def g_s_SameRecording (a : dRec) (b : dRec) : Option (Bool) :=
  Option.bind (g_s_l10Is a) fun y1 =>
  bif (!y1) then
    some false
  else
    Option.bind (g_s_l10Is b) fun y2 =>
    bif (!y2) then
      some false
    else
      bif (!(ieq a.1 b.1)) then
        some false
      else
        bif (!(ieq (((List.length a.2.1) : Nat) : Int) (((List.length b.2.1) : Nat) : Int))) then
          some false
        else
          Option.bind (iter L_s_SameRecording_1 fuel ((false, (0, ())), ((a, ()), ((b, ()), ())))) fun y3 =>
          bif y3.1 then
            some y3.2.1.1
          else
            some true


def g_i_SameVector (a : dVec) (b : dVec) : Option (Bool) :=
  Option.bind (g_i_SameNumber a.1 b.1) fun y1 =>
  bif y1 then
    Option.bind (g_i_SameNumber a.2.1 b.2.1) fun y2 =>
    bif y2 then
      Option.bind (g_i_SameNumber a.2.2.1 b.2.2.1) fun y3 =>
      some y3
    else
      some false
  else
    some false


def g_i_SameTurn (a : dTurn) (b : dTurn) : Option (Bool) :=
  Option.bind (g_i_SameNumber a.1 b.1) fun y1 =>
  bif y1 then
    Option.bind (g_i_SameNumber a.2.1 b.2.1) fun y2 =>
    bif y2 then
      Option.bind (g_i_SameNumber a.2.2.1 b.2.2.1) fun y3 =>
      bif y3 then
        Option.bind (g_i_SameNumber a.2.2.2.1 b.2.2.2.1) fun y4 =>
        some y4
      else
        some false
    else
      some false
  else
    some false


def L_slices_EqualFunc_i_Turn_i_Turn_i_Turn_i_Turn_1 (rec' : ((List dTurn) × Bool × (List dTurn) × Int × Int × Unit) × (Unit) → Option (Bool × ((Bool × Unit) × (Unit)))) (x : ((List dTurn) × Bool × (List dTurn) × Int × Int × Unit) × (Unit)) : Option (Bool × ((Bool × Unit) × (Unit))) := match x with
  | ((s2, t6, t15, t16, t17, ()), (())) =>
    bif (ilt t17 t16) then
      Option.bind (ix t17 (List.length t15)) fun j1 =>
      Option.bind (ix t17 (List.length s2)) fun j2 =>
      Option.bind (g_i_SameTurn (List.getD t15 j1 zTurn) (List.getD s2 j2 zTurn)) fun y3 =>
      bif (!y3) then
        some (true, ((false, ()), ()))
      else
        rec' ((s2, (t6, (t15, (t16, ((iadd .i64 t17 1), ()))))), ())
    else
      some (false, ((t6, ()), ()))

def g_slices_EqualFunc_i_Turn_i_Turn_i_Turn_i_Turn (s1 : (List dTurn)) (s2 : (List dTurn)) (eq : Unit) : Option (Bool) :=
  bif (!(ieq (((List.length s1) : Nat) : Int) (((List.length s2) : Nat) : Int))) then
    some false
  else
    Option.bind (iter L_slices_EqualFunc_i_Turn_i_Turn_i_Turn_i_Turn_1 fuel ((s2, (false, (s1, ((((List.length s1) : Nat) : Int), (0, ()))))), ())) fun y1 =>
    bif y1.1 then
      some y1.2.1.1
    else
      some true


def g_i_SamePose (p : dPose) (q : dPose) : Option (Bool) :=
  Option.bind (g_i_SameVector p.1 q.1) fun y1 =>
  bif y1 then
    Option.bind (g_slices_EqualFunc_i_Turn_i_Turn_i_Turn_i_Turn p.2.1 q.2.1 ()) fun y2 =>
    some y2
  else
    some false


def L_slices_EqualFunc_i_Pose_i_Pose_i_Pose_i_Pose_1 (rec' : ((List dPose) × Bool × (List dPose) × Int × Int × Unit) × (Unit) → Option (Bool × ((Bool × Unit) × (Unit)))) (x : ((List dPose) × Bool × (List dPose) × Int × Int × Unit) × (Unit)) : Option (Bool × ((Bool × Unit) × (Unit))) := match x with
  | ((s2, t6, t15, t16, t17, ()), (())) =>
    bif (ilt t17 t16) then
      Option.bind (ix t17 (List.length t15)) fun j1 =>
      Option.bind (ix t17 (List.length s2)) fun j2 =>
      Option.bind (g_i_SamePose (List.getD t15 j1 zPose) (List.getD s2 j2 zPose)) fun y3 =>
      bif (!y3) then
        some (true, ((false, ()), ()))
      else
        rec' ((s2, (t6, (t15, (t16, ((iadd .i64 t17 1), ()))))), ())
    else
      some (false, ((t6, ()), ()))

def g_slices_EqualFunc_i_Pose_i_Pose_i_Pose_i_Pose (s1 : (List dPose)) (s2 : (List dPose)) (eq : Unit) : Option (Bool) :=
  bif (!(ieq (((List.length s1) : Nat) : Int) (((List.length s2) : Nat) : Int))) then
    some false
  else
    Option.bind (iter L_slices_EqualFunc_i_Pose_i_Pose_i_Pose_i_Pose_1 fuel ((s2, (false, (s1, ((((List.length s1) : Nat) : Int), (0, ()))))), ())) fun y1 =>
    bif y1.1 then
      some y1.2.1.1
    else
      some true


def g_i_SameRecording (a : dRec) (b : dRec) : Option (Bool) :=
  Option.bind (g_i_ValidRecording a) fun y1 =>
  bif y1 then
    Option.bind (g_i_ValidRecording b) fun y2 =>
    bif y2 then
      bif (ieq a.1 b.1) then
        Option.bind (g_slices_EqualFunc_i_Pose_i_Pose_i_Pose_i_Pose a.2.1 b.2.1 ()) fun y3 =>
        some y3
      else
        some false
    else
      some false
  else
    some false


def g_w_FnExactSameRecording (aA : dRec) (aB : dRec) : Option (Bool) :=
  Option.bind (g_w_szRecording aA 1048576) fun y1 =>
  bif (ilt y1 0) then
    some true
  else
    Option.bind (g_w_szRecording aB y1) fun y2 =>
    bif (ilt y2 0) then
      some true
    else
      Option.bind (g_w_toRecording aA) fun y3 =>
      Option.bind (g_w_toRecording aB) fun y4 =>
      Option.bind (g_s_SameRecording y3 y4) fun y5 =>
      Option.bind (g_w_toRecording aA) fun y6 =>
      Option.bind (g_w_toRecording aB) fun y7 =>
      Option.bind (g_i_SameRecording y6 y7) fun y8 =>
      bif (!(y8 == y5)) then
        some false
      else
        Option.bind (g_w_toRecording aA) fun y9 =>
        Option.bind (g_w_eqRecording y6 y9) fun y10 =>
        bif (!y10) then
          some false
        else
          Option.bind (g_w_toRecording aB) fun y11 =>
          Option.bind (g_w_eqRecording y7 y11) fun y12 =>
          bif (!y12) then
            some false
          else
            some true


def L_s_l08List_1 (rec' : ((List dVec) × (List dVec) × Bool × Int × Unit) × (Unit) → Option (Bool × ((Bool × Unit) × (Unit)))) (x : ((List dVec) × (List dVec) × Bool × Int × Unit) × (Unit)) : Option (Bool × ((Bool × Unit) × (Unit))) := match x with
  | ((a, b, t4, i, ()), (())) =>
    bif (ilt i (((List.length a) : Nat) : Int)) then
      Option.bind (ix i (List.length a)) fun j1 =>
      Option.bind (ix i (List.length b)) fun j2 =>
      Option.bind (g_s_l01VSame (List.getD a j1 zVec) (List.getD b j2 zVec)) fun y3 =>
      bif (!y3) then
        some (true, ((false, ()), ()))
      else
        rec' ((a, (b, (t4, ((iadd .i64 i 1), ())))), ())
    else
      some (false, ((t4, ()), ()))

def g_s_l08List (a : (List dVec)) (b : (List dVec)) : Option (Bool) :=
  bif (!(ieq (((List.length a) : Nat) : Int) (((List.length b) : Nat) : Int))) then
    some false
  else
    Option.bind (iter L_s_l08List_1 fuel ((a, (b, (false, (0, ())))), ())) fun y1 =>
    bif y1.1 then
      some y1.2.1.1
    else
      some true


def L_s_l01SameAll_1 (rec' : ((List Nat) × (List Nat) × Bool × Int × Unit) × (Unit) → Option (Bool × ((Bool × Unit) × (Unit)))) (x : ((List Nat) × (List Nat) × Bool × Int × Unit) × (Unit)) : Option (Bool × ((Bool × Unit) × (Unit))) := match x with
  | ((a, b, t4, i, ()), (())) =>
    bif (ilt i (((List.length a) : Nat) : Int)) then
      Option.bind (ix i (List.length a)) fun j1 =>
      Option.bind (ix i (List.length b)) fun j2 =>
      Option.bind (g_s_l01Same (List.getD a j1 (0 : Nat)) (List.getD b j2 (0 : Nat))) fun y3 =>
      bif (!y3) then
        some (true, ((false, ()), ()))
      else
        rec' ((a, (b, (t4, ((iadd .i64 i 1), ())))), ())
    else
      some (false, ((t4, ()), ()))

def g_s_l01SameAll (a : (List Nat)) (b : (List Nat)) : Option (Bool) :=
  bif (!(ieq (((List.length a) : Nat) : Int) (((List.length b) : Nat) : Int))) then
    some false
  else
    Option.bind (iter L_s_l01SameAll_1 fuel ((a, (b, (false, (0, ())))), ())) fun y1 =>
    bif y1.1 then
      some y1.2.1.1
    else
      some true


def L_s_SameString_1 (rec' : (Bool × Int × Unit) × ((dString × Unit) × (dString × Unit) × Unit) → Option (Bool × ((Bool × Unit) × ((dString × Unit) × (dString × Unit) × Unit)))) (x : (Bool × Int × Unit) × ((dString × Unit) × (dString × Unit) × Unit)) : Option (Bool × ((Bool × Unit) × ((dString × Unit) × (dString × Unit) × Unit))) := match x with
  | ((t4, i, ()), ((b0, ()), (b1, ()), ())) =>
    let e1 := ((b0, ()), ((b1, ()), ()))
    bif (ilt i (((List.length b0.2.2.1) : Nat) : Int)) then
      Option.bind (ix i (List.length b0.2.2.1)) fun j2 =>
      Option.bind (ix i (List.length b1.2.2.1)) fun j3 =>
      bif (!((List.getD b0.2.2.1 j2 false) == (List.getD b1.2.2.1 j3 false))) then
        some (true, ((false, ()), e1))
      else
        rec' ((t4, ((iadd .i64 i 1), ())), e1)
    else
      some (false, ((t4, ()), e1))

def g_s_SameString (a : dString) (b : dString) : Option (Bool) :=
  bif (!(t_s_l08Is a)) then
    some false
  else
    bif (!(t_s_l08Is b)) then
      some false
    else
      Option.bind (g_s_l08List a.1 b.1) fun y1 =>
      bif (!y1) then
        some false
      else
        Option.bind (g_s_l08List a.2.1 b.2.1) fun y2 =>
        bif (!y2) then
          some false
        else
          Option.bind (iter L_s_SameString_1 fuel ((false, (0, ())), ((a, ()), ((b, ()), ())))) fun y3 =>
          bif y3.1 then
            some y3.2.1.1
          else
            Option.bind (g_s_l01SameAll y3.2.2.1.1.2.2.2.1 y3.2.2.2.1.1.2.2.2.1) fun y4 =>
            bif y4 then
              Option.bind (g_s_l01VSame y3.2.2.1.1.2.2.2.2.1 y3.2.2.2.1.1.2.2.2.2.1) fun y5 =>
              bif y5 then
                Option.bind (g_s_l01Same y3.2.2.1.1.2.2.2.2.2.1 y3.2.2.2.1.1.2.2.2.2.2.1) fun y6 =>
                bif y6 then
                  some (ieq y3.2.2.1.1.2.2.2.2.2.2.1 y3.2.2.2.1.1.2.2.2.2.2.2.1)
                else
                  some false
              else
                some false
            else
              some false


def L_slices_EqualFunc_i_Vector_i_Vector_i_Vector_i_Vector_1 (rec' : ((List dVec) × Bool × (List dVec) × Int × Int × Unit) × (Unit) → Option (Bool × ((Bool × Unit) × (Unit)))) (x : ((List dVec) × Bool × (List dVec) × Int × Int × Unit) × (Unit)) : Option (Bool × ((Bool × Unit) × (Unit))) := match x with
  | ((s2, t6, t15, t16, t17, ()), (())) =>
    bif (ilt t17 t16) then
      Option.bind (ix t17 (List.length t15)) fun j1 =>
      Option.bind (ix t17 (List.length s2)) fun j2 =>
      Option.bind (g_i_SameVector (List.getD t15 j1 zVec) (List.getD s2 j2 zVec)) fun y3 =>
      bif (!y3) then
        some (true, ((false, ()), ()))
      else
        rec' ((s2, (t6, (t15, (t16, ((iadd .i64 t17 1), ()))))), ())
    else
      some (false, ((t6, ()), ()))

def g_slices_EqualFunc_i_Vector_i_Vector_i_Vector_i_Vector (s1 : (List dVec)) (s2 : (List dVec)) (eq : Unit) : Option (Bool) :=
  bif (!(ieq (((List.length s1) : Nat) : Int) (((List.length s2) : Nat) : Int))) then
    some false
  else
    Option.bind (iter L_slices_EqualFunc_i_Vector_i_Vector_i_Vector_i_Vector_1 fuel ((s2, (false, (s1, ((((List.length s1) : Nat) : Int), (0, ()))))), ())) fun y1 =>
    bif y1.1 then
      some y1.2.1.1
    else
      some true


def L_slices_Equal_bool_bool_1 (rec' : ((List Bool) × (List Bool) × Bool × Int × Int × Unit) × (Unit) → Option (Bool × ((Bool × Unit) × (Unit)))) (x : ((List Bool) × (List Bool) × Bool × Int × Int × Unit) × (Unit)) : Option (Bool × ((Bool × Unit) × (Unit))) := match x with
  | ((s1, s2, t4, t12, t13, ()), (())) =>
    bif (ilt t13 t12) then
      Option.bind (ix t13 (List.length s1)) fun j1 =>
      Option.bind (ix t13 (List.length s2)) fun j2 =>
      bif (!((List.getD s1 j1 false) == (List.getD s2 j2 false))) then
        some (true, ((false, ()), ()))
      else
        rec' ((s1, (s2, (t4, (t12, ((iadd .i64 t13 1), ()))))), ())
    else
      some (false, ((t4, ()), ()))

def g_slices_Equal_bool_bool (s1 : (List Bool)) (s2 : (List Bool)) : Option (Bool) :=
  bif (!(ieq (((List.length s1) : Nat) : Int) (((List.length s2) : Nat) : Int))) then
    some false
  else
    Option.bind (iter L_slices_Equal_bool_bool_1 fuel ((s1, (s2, (false, ((((List.length s1) : Nat) : Int), (0, ()))))), ())) fun y1 =>
    bif y1.1 then
      some y1.2.1.1
    else
      some true


def L_slices_EqualFunc_float32_float32_float32_float32_1 (rec' : ((List Nat) × Bool × (List Nat) × Int × Int × Unit) × (Unit) → Option (Bool × ((Bool × Unit) × (Unit)))) (x : ((List Nat) × Bool × (List Nat) × Int × Int × Unit) × (Unit)) : Option (Bool × ((Bool × Unit) × (Unit))) := match x with
  | ((s2, t6, t15, t16, t17, ()), (())) =>
    bif (ilt t17 t16) then
      Option.bind (ix t17 (List.length t15)) fun j1 =>
      Option.bind (ix t17 (List.length s2)) fun j2 =>
      Option.bind (g_i_SameNumber (List.getD t15 j1 (0 : Nat)) (List.getD s2 j2 (0 : Nat))) fun y3 =>
      bif (!y3) then
        some (true, ((false, ()), ()))
      else
        rec' ((s2, (t6, (t15, (t16, ((iadd .i64 t17 1), ()))))), ())
    else
      some (false, ((t6, ()), ()))

def g_slices_EqualFunc_float32_float32_float32_float32 (s1 : (List Nat)) (s2 : (List Nat)) (eq : Unit) : Option (Bool) :=
  bif (!(ieq (((List.length s1) : Nat) : Int) (((List.length s2) : Nat) : Int))) then
    some false
  else
    Option.bind (iter L_slices_EqualFunc_float32_float32_float32_float32_1 fuel ((s2, (false, (s1, ((((List.length s1) : Nat) : Int), (0, ()))))), ())) fun y1 =>
    bif y1.1 then
      some y1.2.1.1
    else
      some true


def g_i_SameString (a : dString) (b : dString) : Option (Bool) :=
  bif (t_i_ValidString a) then
    bif (t_i_ValidString b) then
      Option.bind (g_slices_EqualFunc_i_Vector_i_Vector_i_Vector_i_Vector a.1 b.1 ()) fun y1 =>
      bif y1 then
        Option.bind (g_slices_EqualFunc_i_Vector_i_Vector_i_Vector_i_Vector a.2.1 b.2.1 ()) fun y2 =>
        bif y2 then
          Option.bind (g_slices_Equal_bool_bool a.2.2.1 b.2.2.1) fun y3 =>
          bif y3 then
            Option.bind (g_slices_EqualFunc_float32_float32_float32_float32 a.2.2.2.1 b.2.2.2.1 ()) fun y4 =>
            bif y4 then
              Option.bind (g_i_SameVector a.2.2.2.2.1 b.2.2.2.2.1) fun y5 =>
              bif y5 then
                Option.bind (g_i_SameNumber a.2.2.2.2.2.1 b.2.2.2.2.2.1) fun y6 =>
                bif y6 then
                  some (ieq a.2.2.2.2.2.2.1 b.2.2.2.2.2.2.1)
                else
                  some false
              else
                some false
            else
              some false
          else
            some false
        else
          some false
      else
        some false
    else
      some false
  else
    some false


def g_w_FnExactSameString (aA : dString) (aB : dString) : Option (Bool) :=
  bif (ilt (t_w_szString aA 1048576) 0) then
    some true
  else
    bif (ilt (t_w_szString aB (t_w_szString aA 1048576)) 0) then
      some true
    else
      Option.bind (g_w_toString aA) fun y1 =>
      Option.bind (g_w_toString aB) fun y2 =>
      Option.bind (g_s_SameString y1 y2) fun y3 =>
      Option.bind (g_w_toString aA) fun y4 =>
      Option.bind (g_w_toString aB) fun y5 =>
      Option.bind (g_i_SameString y4 y5) fun y6 =>
      bif (!(y6 == y3)) then
        some false
      else
        Option.bind (g_w_toString aA) fun y7 =>
        Option.bind (g_w_eqString y4 y7) fun y8 =>
        bif (!y8) then
          some false
        else
          Option.bind (g_w_toString aB) fun y9 =>
          Option.bind (g_w_eqString y5 y9) fun y10 =>
          bif (!y10) then
            some false
          else
            some true


def g_w_szBoneS (a : (List dRootKey)) (left : Int) : Option (Int) :=
  bif (ilt (isub .i64 left (((List.length a) : Nat) : Int)) 0) then
    some (-1)
  else
    some (isub .i64 left (((List.length a) : Nat) : Int))

def t_w_szBoneS (a : (List dRootKey)) (left : Int) : Int :=
  bif (ilt (isub .i64 left (((List.length a) : Nat) : Int)) 0) then
    (-1)
  else
    (isub .i64 left (((List.length a) : Nat) : Int))

theorem q_w_szBoneS (a : (List dRootKey)) (left : Int) : g_w_szBoneS a left = some (t_w_szBoneS a left) := by
  unfold g_w_szBoneS t_w_szBoneS; simp only [bif_some_some]


def g_w_szSkeleton (a : dSkel) (left : Int) : Option (Int) :=
  bif (ilt (t_w_szBoneS a.1 left) 0) then
    some (-1)
  else
    some (t_w_szBoneS a.1 left)

def t_w_szSkeleton (a : dSkel) (left : Int) : Int :=
  bif (ilt (t_w_szBoneS a.1 left) 0) then
    (-1)
  else
    (t_w_szBoneS a.1 left)

theorem q_w_szSkeleton (a : dSkel) (left : Int) : g_w_szSkeleton a left = some (t_w_szSkeleton a left) := by
  unfold g_w_szSkeleton t_w_szSkeleton; simp only [bif_some_some]


def g_w_szSkinPoint (a : dSkinPoint) (left : Int) : Option (Int) :=
  let e1 := (t_w_szFloat32S a.2.2.1 (t_w_szInt64S a.2.1 left))
  bif (ilt (t_w_szInt64S a.2.1 left) 0) then
    some (-1)
  else
    bif (ilt e1 0) then
      some (-1)
    else
      some e1

def t_w_szSkinPoint (a : dSkinPoint) (left : Int) : Int :=
  let e1 := (t_w_szFloat32S a.2.2.1 (t_w_szInt64S a.2.1 left))
  bif (ilt (t_w_szInt64S a.2.1 left) 0) then
    (-1)
  else
    bif (ilt e1 0) then
      (-1)
    else
      e1

theorem q_w_szSkinPoint (a : dSkinPoint) (left : Int) : g_w_szSkinPoint a left = some (t_w_szSkinPoint a left) := by
  unfold g_w_szSkinPoint t_w_szSkinPoint; simp only [bif_some_some]


def L_w_szSkinPointS_1 (rec' : ((List dSkinPoint) × Int × Int × Int × Unit) × (Unit) → Option (Bool × ((Int × Int × Unit) × (Unit)))) (x : ((List dSkinPoint) × Int × Int × Int × Unit) × (Unit)) : Option (Bool × ((Int × Int × Unit) × (Unit))) := match x with
  | ((a, left, t4, i, ()), (())) =>
    bif (ilt i (((List.length a) : Nat) : Int)) then
      Option.bind (ix i (List.length a)) fun j1 =>
      bif (ilt (t_w_szSkinPoint (List.getD a j1 zSkinPoint) left) 0) then
        some (true, (((t_w_szSkinPoint (List.getD a j1 zSkinPoint) left), ((-1), ())), ()))
      else
        rec' ((a, ((t_w_szSkinPoint (List.getD a j1 zSkinPoint) left), (t4, ((iadd .i64 i 1), ())))), ())
    else
      some (false, ((left, (t4, ())), ()))

def g_w_szSkinPointS (a : (List dSkinPoint)) (left : Int) : Option (Int) :=
  bif (ilt (isub .i64 left (((List.length a) : Nat) : Int)) 0) then
    some (-1)
  else
    Option.bind (iter L_w_szSkinPointS_1 fuel ((a, ((isub .i64 left (((List.length a) : Nat) : Int)), (0, (0, ())))), ())) fun y1 =>
    bif y1.1 then
      some y1.2.1.2.1
    else
      some y1.2.1.1


def g_w_toBone (a : dRootKey) : Option (dRootKey) :=
  some (a.1, ((t_w_toVector a.2.1), ()))

def t_w_toBone (a : dRootKey) : dRootKey :=
  (a.1, ((t_w_toVector a.2.1), ()))

theorem q_w_toBone (a : dRootKey) : g_w_toBone a = some (t_w_toBone a) := rfl


def L_w_toBoneS_1 (rec' : ((List dRootKey) × Int × Unit) × ((List dRootKey) × Unit) → Option ((Unit) × ((List dRootKey) × Unit))) (x : ((List dRootKey) × Int × Unit) × ((List dRootKey) × Unit)) : Option ((Unit) × ((List dRootKey) × Unit)) := match x with
  | ((a, i, ()), (r0, ())) =>
    bif (ilt i (((List.length a) : Nat) : Int)) then
      Option.bind (ix i (List.length a)) fun j1 =>
      Option.bind (ix i (List.length r0)) fun j2 =>
      rec' ((a, ((iadd .i64 i 1), ())), ((List.set r0 j2 (t_w_toBone (List.getD a j1 zRootKey))), ()))
    else
      some ((), (r0, ()))

def g_w_toBoneS (a : (List dRootKey)) : Option ((List dRootKey)) :=
  bif (mkOk (((List.length a) : Nat) : Int) (((List.length a) : Nat) : Int)) then
    Option.bind (iter L_w_toBoneS_1 fuel ((a, (0, ())), ((List.replicate (List.length a) (0, ((0, (0, (0, ()))), ()))), ()))) fun y1 =>
    some y1.2.1
  else
    none


def g_w_toSkeleton (a : dSkel) : Option (dSkel) :=
  Option.bind (g_w_toBoneS a.1) fun y1 =>
  some (y1, ())


def g_w_toSkinPoint (a : dSkinPoint) : Option (dSkinPoint) :=
  Option.bind (g_w_toInt64S a.2.1) fun y1 =>
  Option.bind (g_w_toFloat32S a.2.2.1) fun y2 =>
  some ((t_w_toVector a.1), (y1, (y2, ())))


def L_w_toSkinPointS_1 (rec' : ((List dSkinPoint) × Int × Unit) × ((List dSkinPoint) × Unit) → Option ((Unit) × ((List dSkinPoint) × Unit))) (x : ((List dSkinPoint) × Int × Unit) × ((List dSkinPoint) × Unit)) : Option ((Unit) × ((List dSkinPoint) × Unit)) := match x with
  | ((a, i, ()), (r0, ())) =>
    bif (ilt i (((List.length a) : Nat) : Int)) then
      Option.bind (ix i (List.length a)) fun j1 =>
      Option.bind (g_w_toSkinPoint (List.getD a j1 zSkinPoint)) fun y2 =>
      Option.bind (ix i (List.length r0)) fun j3 =>
      rec' ((a, ((iadd .i64 i 1), ())), ((List.set r0 j3 y2), ()))
    else
      some ((), (r0, ()))

def g_w_toSkinPointS (a : (List dSkinPoint)) : Option ((List dSkinPoint)) :=
  bif (mkOk (((List.length a) : Nat) : Int) (((List.length a) : Nat) : Int)) then
    Option.bind (iter L_w_toSkinPointS_1 fuel ((a, (0, ())), ((List.replicate (List.length a) ((0, (0, (0, ()))), (([] : List Int), (([] : List Nat), ())))), ()))) fun y1 =>
    some y1.2.1
  else
    none


def L_s_l03Is_1 (rec' : (dSkel × Bool × Int × Int × Unit) × (Unit) → Option (Bool × ((Bool × Unit) × (Unit)))) (x : (dSkel × Bool × Int × Int × Unit) × (Unit)) : Option (Bool × ((Bool × Unit) × (Unit))) := match x with
  | ((k, t2, n, i, ()), (())) =>
    bif (ilt i n) then
      Option.bind (ix i (List.length k.1)) fun j1 =>
      bif (!(t_s_l00In (List.getD k.1 j1 zRootKey).1 0 (isub .i64 i 1))) then
        some (true, ((false, ()), ()))
      else
        rec' ((k, (t2, (n, ((iadd .i64 i 1), ())))), ())
    else
      some (false, ((t2, ()), ()))

def g_s_l03Is (k : dSkel) : Option (Bool) :=
  bif (!(t_s_l00In (((List.length k.1) : Nat) : Int) 1 12)) then
    some false
  else
    Option.bind (ix 0 (List.length k.1)) fun j1 =>
    bif (!(ieq (List.getD k.1 j1 zRootKey).1 (-1))) then
      some false
    else
      Option.bind (iter L_s_l03Is_1 fuel ((k, (false, ((((List.length k.1) : Nat) : Int), (1, ())))), ())) fun y2 =>
      bif y2.1 then
        some y2.2.1.1
      else
        some true


def g_s_l09Point (xx : dSkinPoint) : Option (Bool) :=
  bif (ile 1 (((List.length xx.2.1) : Nat) : Int)) then
    bif (ile (((List.length xx.2.1) : Nat) : Int) 4) then
      some (ieq (((List.length xx.2.2.1) : Nat) : Int) (((List.length xx.2.1) : Nat) : Int))
    else
      some false
  else
    some false

def t_s_l09Point (xx : dSkinPoint) : Bool :=
  bif (ile 1 (((List.length xx.2.1) : Nat) : Int)) then
    bif (ile (((List.length xx.2.1) : Nat) : Int) 4) then
      (ieq (((List.length xx.2.2.1) : Nat) : Int) (((List.length xx.2.1) : Nat) : Int))
    else
      false
  else
    false

theorem q_s_l09Point (xx : dSkinPoint) : g_s_l09Point xx = some (t_s_l09Point xx) := by
  unfold g_s_l09Point t_s_l09Point; simp only [bif_some_some]


def L_s_l00Rises_1 (rec' : ((List Int) × Int × Int × Bool × Int × Unit) × (Unit) → Option (Bool × ((Bool × Unit) × (Unit)))) (x : ((List Int) × Int × Int × Bool × Int × Unit) × (Unit)) : Option (Bool × ((Bool × Unit) × (Unit))) := match x with
  | ((list, low, high, t6, i, ()), (())) =>
    let e1 := ((list, (low, (high, (t6, ((iadd .i64 i 1), ()))))), ())
    bif (ilt i (((List.length list) : Nat) : Int)) then
      Option.bind (ix i (List.length list)) fun j2 =>
      bif (!(t_s_l00In (List.getD list j2 (0 : Int)) low high)) then
        some (true, ((false, ()), ()))
      else
        bif (ilt 0 i) then
          Option.bind (ix (isub .i64 i 1) (List.length list)) fun j3 =>
          Option.bind (ix i (List.length list)) fun j4 =>
          bif (ile (List.getD list j4 (0 : Int)) (List.getD list j3 (0 : Int))) then
            some (true, ((false, ()), ()))
          else
            rec' e1
        else
          rec' e1
    else
      some (false, ((t6, ()), ()))

def g_s_l00Rises (list : (List Int)) (low : Int) (high : Int) : Option (Bool) :=
  Option.bind (iter L_s_l00Rises_1 fuel ((list, (low, (high, (false, (0, ()))))), ())) fun y1 =>
  bif y1.1 then
    some y1.2.1.1
  else
    some true


def L_s_l09Skin_1 (rec' : (dSkel × (List dSkinPoint) × Bool × Int × Int × Unit) × (Unit) → Option (Bool × (((List dSkinPoint) × Bool × Unit) × (Unit)))) (x : (dSkel × (List dSkinPoint) × Bool × Int × Int × Unit) × (Unit)) : Option (Bool × (((List dSkinPoint) × Bool × Unit) × (Unit))) := match x with
  | ((k, points, t4, t7, t8, ()), (())) =>
    let e1 := (true, ((points, (false, ())), ()))
    bif (ilt t8 t7) then
      Option.bind (ix t8 (List.length points)) fun j2 =>
      bif (!(t_s_l09Point (List.getD points j2 zSkinPoint))) then
        some e1
      else
        Option.bind (ix t8 (List.length points)) fun j3 =>
        Option.bind (g_s_l00Rises (List.getD points j3 zSkinPoint).2.1 0 (isub .i64 (((List.length k.1) : Nat) : Int) 1)) fun y4 =>
        bif (!y4) then
          some e1
        else
          rec' ((k, (points, (t4, (t7, ((iadd .i64 t8 1), ()))))), ())
    else
      some (false, ((points, (t4, ())), ()))

def g_s_l09Skin (k : dSkel) (points : (List dSkinPoint)) : Option (Bool) :=
  Option.bind (iter L_s_l09Skin_1 fuel ((k, (points, (false, ((((List.length points) : Nat) : Int), (0, ()))))), ())) fun y1 =>
  bif y1.1 then
    some y1.2.1.2.1
  else
    some (ile (((List.length y1.2.1.1) : Nat) : Int) 24)


def g_s_IsSkin (k : dSkel) (points : (List dSkinPoint)) : Option (Bool) :=
  Option.bind (g_s_l03Is k) fun y1 =>
  bif y1 then
    Option.bind (g_s_l09Skin k points) fun y2 =>
    some y2
  else
    some false


def L_i_ValidSkeleton_1 (rec' : (Bool × (List dRootKey) × Int × Int × Unit) × (Unit) → Option (Bool × ((Bool × Unit) × (Unit)))) (x : (Bool × (List dRootKey) × Int × Int × Unit) × (Unit)) : Option (Bool × ((Bool × Unit) × (Unit))) := match x with
  | ((t2, t25, t26, t27, ()), (())) =>
    bif (ilt t27 t26) then
      Option.bind (ix t27 (List.length t25)) fun j1 =>
      bif (ilt (List.getD t25 j1 zRootKey).1 0) then
        some (true, ((false, ()), ()))
      else
        bif (ilt t27 (List.getD t25 j1 zRootKey).1) then
          some (true, ((false, ()), ()))
        else
          rec' ((t2, (t25, (t26, ((iadd .i64 t27 1), ())))), ())
    else
      some (false, ((t2, ()), ()))

def g_i_ValidSkeleton (k : dSkel) : Option (Bool) :=
  bif (ilt (((List.length k.1) : Nat) : Int) 1) then
    some false
  else
    bif (ilt 12 (((List.length k.1) : Nat) : Int)) then
      some false
    else
      Option.bind (ix 0 (List.length k.1)) fun j1 =>
      bif (!(ieq (List.getD k.1 j1 zRootKey).1 (-1))) then
        some false
      else
        bif (decide ((1 : Int) ≤ (((List.length k.1) : Nat) : Int))) then
          Option.bind (iter L_i_ValidSkeleton_1 fuel ((false, ((List.drop 1 (List.take (List.length k.1) k.1)), ((((List.length (List.drop 1 (List.take (List.length k.1) k.1))) : Nat) : Int), (0, ())))), ())) fun y2 =>
          bif y2.1 then
            some y2.2.1.1
          else
            some true
        else
          none


def g_i_SkinPoint_isHeld (p : dSkinPoint) : Option (Bool) :=
  bif (ile 1 (((List.length p.2.1) : Nat) : Int)) then
    bif (ile (((List.length p.2.1) : Nat) : Int) 4) then
      some (ieq (((List.length p.2.2.1) : Nat) : Int) (((List.length p.2.1) : Nat) : Int))
    else
      some false
  else
    some false

def t_i_SkinPoint_isHeld (p : dSkinPoint) : Bool :=
  bif (ile 1 (((List.length p.2.1) : Nat) : Int)) then
    bif (ile (((List.length p.2.1) : Nat) : Int) 4) then
      (ieq (((List.length p.2.2.1) : Nat) : Int) (((List.length p.2.1) : Nat) : Int))
    else
      false
  else
    false

theorem q_i_SkinPoint_isHeld (p : dSkinPoint) : g_i_SkinPoint_isHeld p = some (t_i_SkinPoint_isHeld p) := by
  unfold g_i_SkinPoint_isHeld t_i_SkinPoint_isHeld; simp only [bif_some_some]


def L_i_IsSkin_2 (rec' : (Bool × Int × (List dSkinPoint) × Int × Int × (List Int) × Int × Int × Unit) × ((dSkel × Unit) × Unit) → Option (Bool × ((Bool × (List dSkinPoint) × Int × Int × Unit) × ((dSkel × Unit) × Unit)))) (x : (Bool × Int × (List dSkinPoint) × Int × Int × (List Int) × Int × Int × Unit) × ((dSkel × Unit) × Unit)) : Option (Bool × ((Bool × (List dSkinPoint) × Int × Int × Unit) × ((dSkel × Unit) × Unit))) := match x with
  | ((t4, last, t18, t19, t20, t28, t29, t30, ()), ((b0, ()), ())) =>
    let e1 := (true, ((false, (t18, (t19, (t20, ())))), ((b0, ()), ())))
    bif (ilt t30 t29) then
      Option.bind (ix t30 (List.length t28)) fun j2 =>
      bif (ile (List.getD t28 j2 (0 : Int)) last) then
        some e1
      else
        bif (ile (((List.length b0.1) : Nat) : Int) (List.getD t28 j2 (0 : Int))) then
          some e1
        else
          rec' ((t4, ((List.getD t28 j2 (0 : Int)), (t18, (t19, (t20, (t28, (t29, ((iadd .i64 t30 1), ())))))))), ((b0, ()), ()))
    else
      some (false, ((t4, (t18, (t19, (t20, ())))), ((b0, ()), ())))

def L_i_IsSkin_1 (rec' : (Bool × (List dSkinPoint) × Int × Int × Unit) × ((dSkel × Unit) × Unit) → Option (Bool × ((Bool × Unit) × (Unit)))) (x : (Bool × (List dSkinPoint) × Int × Int × Unit) × ((dSkel × Unit) × Unit)) : Option (Bool × ((Bool × Unit) × (Unit))) := match x with
  | ((t4, t18, t19, t20, ()), ((b0, ()), ())) =>
    bif (ilt t20 t19) then
      Option.bind (ix t20 (List.length t18)) fun j1 =>
      bif (!(t_i_SkinPoint_isHeld (List.getD t18 j1 zSkinPoint))) then
        some (true, ((false, ()), ()))
      else
        Option.bind (iter L_i_IsSkin_2 fuel ((t4, ((-1), (t18, (t19, (t20, ((List.getD t18 j1 zSkinPoint).2.1, ((((List.length (List.getD t18 j1 zSkinPoint).2.1) : Nat) : Int), (0, ())))))))), ((b0, ()), ()))) fun y2 =>
        bif y2.1 then
          some (true, ((y2.2.1.1, ()), ()))
        else
          rec' ((y2.2.1.1, (y2.2.1.2.1, (y2.2.1.2.2.1, ((iadd .i64 y2.2.1.2.2.2.1 1), ())))), ((y2.2.2.1.1, ()), ()))
    else
      some (false, ((t4, ()), ()))

def g_i_IsSkin (k : dSkel) (points : (List dSkinPoint)) : Option (Bool) :=
  Option.bind (g_i_ValidSkeleton k) fun y1 =>
  bif (!y1) then
    some false
  else
    bif (ilt 24 (((List.length points) : Nat) : Int)) then
      some false
    else
      Option.bind (iter L_i_IsSkin_1 fuel ((false, (points, ((((List.length points) : Nat) : Int), (0, ())))), ((k, ()), ()))) fun y2 =>
      bif y2.1 then
        some y2.2.1.1
      else
        some true


def g_w_eqBone (a : dRootKey) (b : dRootKey) : Option (Bool) :=
  bif (!(ieq a.1 b.1)) then
    some false
  else
    bif (!(t_w_eqVector a.2.1 b.2.1)) then
      some false
    else
      some true

def t_w_eqBone (a : dRootKey) (b : dRootKey) : Bool :=
  bif (!(ieq a.1 b.1)) then
    false
  else
    bif (!(t_w_eqVector a.2.1 b.2.1)) then
      false
    else
      true

theorem q_w_eqBone (a : dRootKey) (b : dRootKey) : g_w_eqBone a b = some (t_w_eqBone a b) := by
  unfold g_w_eqBone t_w_eqBone; simp only [bif_some_some]


def L_w_eqBoneS_1 (rec' : ((List dRootKey) × (List dRootKey) × Bool × Int × Unit) × (Unit) → Option (Bool × ((Bool × Unit) × (Unit)))) (x : ((List dRootKey) × (List dRootKey) × Bool × Int × Unit) × (Unit)) : Option (Bool × ((Bool × Unit) × (Unit))) := match x with
  | ((a, b, t4, i, ()), (())) =>
    bif (ilt i (((List.length a) : Nat) : Int)) then
      Option.bind (ix i (List.length a)) fun j1 =>
      Option.bind (ix i (List.length b)) fun j2 =>
      bif (!(t_w_eqBone (List.getD a j1 zRootKey) (List.getD b j2 zRootKey))) then
        some (true, ((false, ()), ()))
      else
        rec' ((a, (b, (t4, ((iadd .i64 i 1), ())))), ())
    else
      some (false, ((t4, ()), ()))

def g_w_eqBoneS (a : (List dRootKey)) (b : (List dRootKey)) : Option (Bool) :=
  bif (!(ieq (((List.length a) : Nat) : Int) (((List.length b) : Nat) : Int))) then
    some false
  else
    Option.bind (iter L_w_eqBoneS_1 fuel ((a, (b, (false, (0, ())))), ())) fun y1 =>
    bif y1.1 then
      some y1.2.1.1
    else
      some true


def g_w_eqSkeleton (a : dSkel) (b : dSkel) : Option (Bool) :=
  Option.bind (g_w_eqBoneS a.1 b.1) fun y1 =>
  bif (!y1) then
    some false
  else
    some true


def g_w_eqSkinPoint (a : dSkinPoint) (b : dSkinPoint) : Option (Bool) :=
  bif (!(t_w_eqVector a.1 b.1)) then
    some false
  else
    Option.bind (g_w_eqInt64S a.2.1 b.2.1) fun y1 =>
    bif (!y1) then
      some false
    else
      Option.bind (g_w_eqFloat32S a.2.2.1 b.2.2.1) fun y2 =>
      bif (!y2) then
        some false
      else
        some true


def L_w_eqSkinPointS_1 (rec' : ((List dSkinPoint) × (List dSkinPoint) × Bool × Int × Unit) × (Unit) → Option (Bool × ((Bool × Unit) × (Unit)))) (x : ((List dSkinPoint) × (List dSkinPoint) × Bool × Int × Unit) × (Unit)) : Option (Bool × ((Bool × Unit) × (Unit))) := match x with
  | ((a, b, t4, i, ()), (())) =>
    bif (ilt i (((List.length a) : Nat) : Int)) then
      Option.bind (ix i (List.length a)) fun j1 =>
      Option.bind (ix i (List.length b)) fun j2 =>
      Option.bind (g_w_eqSkinPoint (List.getD a j1 zSkinPoint) (List.getD b j2 zSkinPoint)) fun y3 =>
      bif (!y3) then
        some (true, ((false, ()), ()))
      else
        rec' ((a, (b, (t4, ((iadd .i64 i 1), ())))), ())
    else
      some (false, ((t4, ()), ()))

def g_w_eqSkinPointS (a : (List dSkinPoint)) (b : (List dSkinPoint)) : Option (Bool) :=
  bif (!(ieq (((List.length a) : Nat) : Int) (((List.length b) : Nat) : Int))) then
    some false
  else
    Option.bind (iter L_w_eqSkinPointS_1 fuel ((a, (b, (false, (0, ())))), ())) fun y1 =>
    bif y1.1 then
      some y1.2.1.1
    else
      some true


def g_w_FnExactIsSkin (aK : dSkel) (aPoints : (List dSkinPoint)) : Option (Bool) :=
  bif (ilt (t_w_szSkeleton aK 1048576) 0) then
    some true
  else
    Option.bind (g_w_szSkinPointS aPoints (t_w_szSkeleton aK 1048576)) fun y1 =>
    bif (ilt y1 0) then
      some true
    else
      Option.bind (g_w_toSkeleton aK) fun y2 =>
      Option.bind (g_w_toSkinPointS aPoints) fun y3 =>
      Option.bind (g_s_IsSkin y2 y3) fun y4 =>
      Option.bind (g_w_toSkeleton aK) fun y5 =>
      Option.bind (g_w_toSkinPointS aPoints) fun y6 =>
      Option.bind (g_i_IsSkin y5 y6) fun y7 =>
      bif (!(y7 == y4)) then
        some false
      else
        Option.bind (g_w_toSkeleton aK) fun y8 =>
        Option.bind (g_w_eqSkeleton y5 y8) fun y9 =>
        bif (!y9) then
          some false
        else
          Option.bind (g_w_toSkinPointS aPoints) fun y10 =>
          Option.bind (g_w_eqSkinPointS y6 y10) fun y11 =>
          bif (!y11) then
            some false
          else
            some true


def L_s_l01Sum_1 (rec' : ((List Nat) × Nat × Int × Unit) × (Unit) → Option ((Nat × Unit) × (Unit))) (x : ((List Nat) × Nat × Int × Unit) × (Unit)) : Option ((Nat × Unit) × (Unit)) := match x with
  | ((list, sum, i, ()), (())) =>
    bif (ilt i (((List.length list) : Nat) : Int)) then
      Option.bind (ix i (List.length list)) fun j1 =>
      rec' ((list, ((fadd .f32 sum (List.getD list j1 (0 : Nat))), ((iadd .i64 i 1), ()))), ())
    else
      some ((sum, ()), ())

def g_s_l01Sum (list : (List Nat)) : Option (Nat) :=
  Option.bind (iter L_s_l01Sum_1 fuel ((list, (0, (0, ()))), ())) fun y1 =>
  some y1.1.1


def g_s_l00Own (list : (List Int)) : Option ((List Int)) :=
  bif (Nat.ble (0 + (List.length list)) 4294967296) then
    some ([] ++ list)
  else
    none


def L_s_EvenWeights_2 (rec' : ((List dSkinPoint) × Bool × Nat × Int × Int × Int × Int × Unit) × ((List dSkinPoint) × (dSkinPoint × Unit) × (List Int) × (List Nat) × (dVec × Unit) × Unit) → Option (((List dSkinPoint) × Bool × Int × Int × Unit) × ((List dSkinPoint) × (List Int) × (List Nat) × (dVec × Unit) × Unit))) (x : ((List dSkinPoint) × Bool × Nat × Int × Int × Int × Int × Unit) × ((List dSkinPoint) × (dSkinPoint × Unit) × (List Int) × (List Nat) × (dVec × Unit) × Unit)) : Option (((List dSkinPoint) × Bool × Int × Int × Unit) × ((List dSkinPoint) × (List Int) × (List Nat) × (dVec × Unit) × Unit)) := match x with
  | ((points, t3, sum, t16, t17, t38, t39, ()), (r0, (b1, ()), r2, r3, (b4, ()), ())) =>
    let e1 := (points, (t3, (sum, (t16, (t17, (t38, ((iadd .i64 t39 1), ())))))))
    let e2 := (e1, (r0, ((b1, ()), (r2, ((r3 ++ [1065353216]), ((b4, ()), ()))))))
    let e3 := (e1, (r0, ((b1, ()), (r2, ((r3 ++ [0]), ((b4, ()), ()))))))
    bif (ilt t39 t38) then
      Option.bind (ix t39 (List.length b1.2.2.1)) fun j4 =>
      bif (feq .f32 sum 0) then
        bif (ieq t39 0) then
          bif (Nat.ble ((List.length r3) + 1) 4294967296) then
            rec' e2
          else
            none
        else
          bif (Nat.ble ((List.length r3) + 1) 4294967296) then
            rec' e3
          else
            none
      else
        bif (!(t_s_l01Finite sum)) then
          bif (ieq t39 0) then
            bif (Nat.ble ((List.length r3) + 1) 4294967296) then
              rec' e2
            else
              none
          else
            bif (Nat.ble ((List.length r3) + 1) 4294967296) then
              rec' e3
            else
              none
        else
          bif (Nat.ble ((List.length r3) + 1) 4294967296) then
            rec' (e1, (r0, ((b1, ()), (r2, ((r3 ++ [(fdiv .f32 (List.getD b1.2.2.1 j4 (0 : Nat)) sum)]), ((b4, ()), ()))))))
          else
            none
    else
      some ((points, (t3, (t16, (t17, ())))), (r0, (r2, (r3, ((b4, ()), ())))))

def L_s_EvenWeights_1 (rec' : ((List dSkinPoint) × Bool × Int × Int × Unit) × ((List dSkinPoint) × Unit) → Option (Bool × ((Bool × Unit) × ((List dSkinPoint) × Unit)))) (x : ((List dSkinPoint) × Bool × Int × Int × Unit) × ((List dSkinPoint) × Unit)) : Option (Bool × ((Bool × Unit) × ((List dSkinPoint) × Unit))) := match x with
  | ((points, t3, t16, t17, ()), (r0, ())) =>
    bif (ilt t17 t16) then
      Option.bind (ix t17 (List.length points)) fun j1 =>
      bif (!(t_s_l09Point (List.getD points j1 zSkinPoint))) then
        some (true, ((false, ()), (r0, ())))
      else
        Option.bind (g_s_l01Sum (List.getD points j1 zSkinPoint).2.2.1) fun y2 =>
        Option.bind (g_s_l00Own (List.getD points j1 zSkinPoint).2.1) fun y3 =>
        Option.bind (iter L_s_EvenWeights_2 fuel ((points, (t3, (y2, (t16, (t17, ((((List.length (List.getD points j1 zSkinPoint).2.2.1) : Nat) : Int), (0, ()))))))), (r0, (((List.getD points j1 zSkinPoint), ()), (y3, ([], (((List.getD points j1 zSkinPoint).1, ()), ()))))))) fun y4 =>
        let e5 := (([] : List dSkinPoint) ++ [(y4.2.2.2.2.1.1, (y4.2.2.1, (y4.2.2.2.1, ())))])
        bif (Nat.ble ((List.length y4.2.1) + (List.length e5)) 4294967296) then
          rec' ((y4.1.1, (y4.1.2.1, (y4.1.2.2.1, ((iadd .i64 y4.1.2.2.2.1 1), ())))), ((y4.2.1 ++ e5), ()))
        else
          none
    else
      some (false, ((t3, ()), (r0, ())))

def g_s_EvenWeights (points : (List dSkinPoint)) : Option (((List dSkinPoint) × (Bool × Unit))) :=
  bif (ilt 24 (((List.length points) : Nat) : Int)) then
    some (([] : List dSkinPoint), (false, ()))
  else
    Option.bind (iter L_s_EvenWeights_1 fuel ((points, (false, ((((List.length points) : Nat) : Int), (0, ())))), ((([] : List dSkinPoint) ++ []), ()))) fun y1 =>
    bif y1.1 then
      some (([] : List dSkinPoint), (y1.2.1.1, ()))
    else
      some (y1.2.2.1, (true, ()))


def g_i_EvenWeights_1 (p : dSkinPoint) : Option (Bool) :=
  some (!(t_i_SkinPoint_isHeld p))

def t_i_EvenWeights_1 (p : dSkinPoint) : Bool :=
  (!(t_i_SkinPoint_isHeld p))

theorem q_i_EvenWeights_1 (p : dSkinPoint) : g_i_EvenWeights_1 p = some (t_i_EvenWeights_1 p) := rfl


def L_slices_IndexFunc_i_SkinPoint_i_SkinPoint_1 (rec' : ((List dSkinPoint) × Int × Int × Int × Unit) × (Unit) → Option (Bool × ((Int × Unit) × (Unit)))) (x : ((List dSkinPoint) × Int × Int × Int × Unit) × (Unit)) : Option (Bool × ((Int × Unit) × (Unit))) := match x with
  | ((s, t4, t7, t8, ()), (())) =>
    bif (ilt t8 t7) then
      Option.bind (ix t8 (List.length s)) fun j1 =>
      bif (t_i_EvenWeights_1 (List.getD s j1 zSkinPoint)) then
        some (true, ((t8, ()), ()))
      else
        rec' ((s, (t4, (t7, ((iadd .i64 t8 1), ())))), ())
    else
      some (false, ((t4, ()), ()))

def g_slices_IndexFunc_i_SkinPoint_i_SkinPoint (s : (List dSkinPoint)) (f : Unit) : Option (Int) :=
  Option.bind (iter L_slices_IndexFunc_i_SkinPoint_i_SkinPoint_1 fuel ((s, (0, ((((List.length s) : Nat) : Int), (0, ())))), ())) fun y1 =>
  bif y1.1 then
    some y1.2.1.1
  else
    some (-1)


def g_slices_ContainsFunc_i_SkinPoint_i_SkinPoint (s : (List dSkinPoint)) (f : Unit) : Option (Bool) :=
  Option.bind (g_slices_IndexFunc_i_SkinPoint_i_SkinPoint s ()) fun y1 =>
  some (ile 0 y1)


def L_i_sum_1 (rec' : (Nat × (List Nat) × Int × Int × Unit) × (Unit) → Option ((Nat × Unit) × (Unit))) (x : (Nat × (List Nat) × Int × Int × Unit) × (Unit)) : Option ((Nat × Unit) × (Unit)) := match x with
  | ((s, t6, t7, t8, ()), (())) =>
    bif (ilt t8 t7) then
      Option.bind (ix t8 (List.length t6)) fun j1 =>
      rec' (((fadd .f32 s (List.getD t6 j1 (0 : Nat))), (t6, (t7, ((iadd .i64 t8 1), ())))), ())
    else
      some ((s, ()), ())

def g_i_sum (list : (List Nat)) : Option (Nat) :=
  Option.bind (iter L_i_sum_1 fuel ((0, (list, ((((List.length list) : Nat) : Int), (0, ())))), ())) fun y1 =>
  some y1.1.1


def g_i_isLength (n : Nat) : Option (Bool) :=
  bif (t_i_IsFinite n) then
    some (!(feq .f32 n 0))
  else
    some false

def t_i_isLength (n : Nat) : Bool :=
  bif (t_i_IsFinite n) then
    (!(feq .f32 n 0))
  else
    false

theorem q_i_isLength (n : Nat) : g_i_isLength n = some (t_i_isLength n) := by
  unfold g_i_isLength t_i_isLength; simp only [bif_some_some]


def g_slices_Clone_int64_int64 (s : (List Int)) : Option ((List Int)) :=
  bif (Nat.beq (List.length s) 0) then
    bothSame (
      some ([] : List Int)
    ) (
      bif (Nat.ble (0 + (List.length s)) 4294967296) then
        some ([] ++ s)
      else
        none
    )
  else
    bif (Nat.ble (0 + (List.length s)) 4294967296) then
      some ([] ++ s)
    else
      none


def L_i_EvenWeights_2 (rec' : (Nat × (List dSkinPoint) × Int × Int × (List Nat) × Int × Int × Unit) × ((List dSkinPoint) × (dSkinPoint × Unit) × (List Nat) × Unit) → Option (((List dSkinPoint) × Int × Int × Unit) × ((List dSkinPoint) × (dSkinPoint × Unit) × (List Nat) × Unit))) (x : (Nat × (List dSkinPoint) × Int × Int × (List Nat) × Int × Int × Unit) × ((List dSkinPoint) × (dSkinPoint × Unit) × (List Nat) × Unit)) : Option (((List dSkinPoint) × Int × Int × Unit) × ((List dSkinPoint) × (dSkinPoint × Unit) × (List Nat) × Unit)) := match x with
  | ((s, t18, t19, t20, t34, t35, t36, ()), (r0, (b1, ()), r2, ())) =>
    bif (ilt t36 t35) then
      Option.bind (ix t36 (List.length t34)) fun j1 =>
      Option.bind (ix t36 (List.length r2)) fun j2 =>
      rec' ((s, (t18, (t19, (t20, (t34, (t35, ((iadd .i64 t36 1), ()))))))), (r0, ((b1, ()), ((List.set r2 j2 (fdiv .f32 (List.getD t34 j1 (0 : Nat)) s)), ()))))
    else
      some ((t18, (t19, (t20, ()))), (r0, ((b1, ()), (r2, ()))))

def L_i_EvenWeights_1 (rec' : ((List dSkinPoint) × Int × Int × Unit) × ((List dSkinPoint) × Unit) → Option ((Unit) × ((List dSkinPoint) × Unit))) (x : ((List dSkinPoint) × Int × Int × Unit) × ((List dSkinPoint) × Unit)) : Option ((Unit) × ((List dSkinPoint) × Unit)) := match x with
  | ((t18, t19, t20, ()), (r0, ())) =>
    bif (ilt t20 t19) then
      Option.bind (ix t20 (List.length t18)) fun j1 =>
      let e2 := (List.replicate (List.length (List.getD t18 j1 zSkinPoint).2.2.1) 0)
      Option.bind (g_i_sum (List.getD t18 j1 zSkinPoint).2.2.1) fun y3 =>
      bif (mkOk (((List.length (List.getD t18 j1 zSkinPoint).2.2.1) : Nat) : Int) (((List.length (List.getD t18 j1 zSkinPoint).2.2.1) : Nat) : Int)) then
        bif (t_i_isLength y3) then
          Option.bind (iter L_i_EvenWeights_2 fuel ((y3, (t18, (t19, (t20, ((List.getD t18 j1 zSkinPoint).2.2.1, ((((List.length (List.getD t18 j1 zSkinPoint).2.2.1) : Nat) : Int), (0, ()))))))), (r0, (((List.getD t18 j1 zSkinPoint), ()), (e2, ()))))) fun y4 =>
          Option.bind (g_slices_Clone_int64_int64 y4.2.2.1.1.2.1) fun y5 =>
          let e6 := (([] : List dSkinPoint) ++ [(y4.2.2.1.1.1, (y5, (y4.2.2.2.1, ())))])
          bif (Nat.ble ((List.length y4.2.1) + (List.length e6)) 4294967296) then
            rec' ((y4.1.1, (y4.1.2.1, ((iadd .i64 y4.1.2.2.1 1), ()))), ((y4.2.1 ++ e6), ()))
          else
            none
        else
          Option.bind (ix 0 (List.length e2)) fun j7 =>
          Option.bind (g_slices_Clone_int64_int64 (List.getD t18 j1 zSkinPoint).2.1) fun y8 =>
          let e9 := (([] : List dSkinPoint) ++ [((List.getD t18 j1 zSkinPoint).1, (y8, ((List.set e2 j7 1065353216), ())))])
          bif (Nat.ble ((List.length r0) + (List.length e9)) 4294967296) then
            rec' ((t18, (t19, ((iadd .i64 t20 1), ()))), ((r0 ++ e9), ()))
          else
            none
      else
        none
    else
      some ((), (r0, ()))

def g_i_EvenWeights (points : (List dSkinPoint)) : Option (((List dSkinPoint) × (Bool × Unit))) :=
  bif (ilt 24 (((List.length points) : Nat) : Int)) then
    some (([] : List dSkinPoint), (false, ()))
  else
    Option.bind (g_slices_ContainsFunc_i_SkinPoint_i_SkinPoint points ()) fun y1 =>
    bif y1 then
      some (([] : List dSkinPoint), (false, ()))
    else
      Option.bind (iter L_i_EvenWeights_1 fuel ((points, ((((List.length points) : Nat) : Int), (0, ()))), (([] : List dSkinPoint), ()))) fun y2 =>
      some (y2.2.1, (true, ()))


def L_w_markSkinPointS_1 (rec' : (Int × Int × Unit) × ((List dSkinPoint) × Unit) → Option ((Int × Unit) × ((List dSkinPoint) × Unit))) (x : (Int × Int × Unit) × ((List dSkinPoint) × Unit)) : Option ((Int × Unit) × ((List dSkinPoint) × Unit)) := match x with
  | ((k, i, ()), (r0, ())) =>
    bif (ilt i (((List.length r0) : Nat) : Int)) then
      Option.bind (ix i (List.length r0)) fun j1 =>
      let e2 := (List.set r0 j1 (((fofInt .f32 k), (List.getD r0 j1 zSkinPoint).1.2), (List.getD r0 j1 zSkinPoint).2))
      Option.bind (ix i (List.length e2)) fun j3 =>
      let e4 := (List.getD e2 j3 zSkinPoint)
      let e5 := (List.set e2 j3 ((e4.1.1, ((fofInt .f32 (iadd .i64 k 1)), e4.1.2.2)), e4.2))
      Option.bind (ix i (List.length e5)) fun j6 =>
      let e7 := (List.getD e5 j6 zSkinPoint)
      let e8 := (List.set e5 j6 ((e7.1.1, (e7.1.2.1, ((fofInt .f32 (iadd .i64 (iadd .i64 k 1) 1)), ()))), e7.2))
      Option.bind (ix i (List.length e8)) fun j9 =>
      let e10 := (List.getD e8 j9 zSkinPoint)
      Option.bind (g_w_markInt64S e10.2.1 (iadd .i64 (iadd .i64 (iadd .i64 k 1) 1) 1)) fun y11 =>
      let e12 := (List.set e8 j9 (e10.1, (y11.2.1, e10.2.2)))
      Option.bind (ix i (List.length e12)) fun j13 =>
      let e14 := (List.getD e12 j13 zSkinPoint)
      Option.bind (g_w_markFloat32S e14.2.2.1 y11.1) fun y15 =>
      rec' ((y15.1, ((iadd .i64 i 1), ())), ((List.set e12 j13 (e14.1, (e14.2.1, (y15.2.1, ())))), ()))
    else
      some ((k, ()), (r0, ()))

def g_w_markSkinPointS (a : (List dSkinPoint)) (k : Int) : Option (Int × ((List dSkinPoint) × Int × Unit)) :=
  Option.bind (iter L_w_markSkinPointS_1 fuel ((k, (0, ())), (a, ()))) fun y1 =>
  some (y1.1.1, (y1.2.1, (k, ())))


def L_w_heldSkinPointS_1 (rec' : ((List dSkinPoint) × Int × Int × Int × Unit) × (Unit) → Option (Bool × ((Int × Int × Unit) × (Unit)))) (x : ((List dSkinPoint) × Int × Int × Int × Unit) × (Unit)) : Option (Bool × ((Int × Int × Unit) × (Unit))) := match x with
  | ((a, k, t4, i, ()), (())) =>
    bif (ilt i (((List.length a) : Nat) : Int)) then
      Option.bind (ix i (List.length a)) fun j1 =>
      bif (!(feq .f32 (List.getD a j1 zSkinPoint).1.1 (fofInt .f32 k))) then
        some (true, ((k, ((-1), ())), ()))
      else
        Option.bind (ix i (List.length a)) fun j2 =>
        bif (!(feq .f32 (List.getD a j2 zSkinPoint).1.2.1 (fofInt .f32 (iadd .i64 k 1)))) then
          some (true, (((iadd .i64 k 1), ((-1), ())), ()))
        else
          Option.bind (ix i (List.length a)) fun j3 =>
          bif (!(feq .f32 (List.getD a j3 zSkinPoint).1.2.2.1 (fofInt .f32 (iadd .i64 (iadd .i64 k 1) 1)))) then
            some (true, (((iadd .i64 (iadd .i64 k 1) 1), ((-1), ())), ()))
          else
            Option.bind (ix i (List.length a)) fun j4 =>
            Option.bind (g_w_heldInt64S (List.getD a j4 zSkinPoint).2.1 (iadd .i64 (iadd .i64 (iadd .i64 k 1) 1) 1)) fun y5 =>
            bif (ilt y5 0) then
              some (true, ((y5, ((-1), ())), ()))
            else
              Option.bind (ix i (List.length a)) fun j6 =>
              Option.bind (g_w_heldFloat32S (List.getD a j6 zSkinPoint).2.2.1 y5) fun y7 =>
              bif (ilt y7 0) then
                some (true, ((y7, ((-1), ())), ()))
              else
                rec' ((a, (y7, (t4, ((iadd .i64 i 1), ())))), ())
    else
      some (false, ((k, (t4, ())), ()))

def g_w_heldSkinPointS (a : (List dSkinPoint)) (k : Int) : Option (Int) :=
  Option.bind (iter L_w_heldSkinPointS_1 fuel ((a, (k, (0, (0, ())))), ())) fun y1 =>
  bif y1.1 then
    some y1.2.1.2.1
  else
    some y1.2.1.1


def g_w_FnExactEvenWeights (aPoints : (List dSkinPoint)) : Option (Bool) :=
  Option.bind (g_w_szSkinPointS aPoints 1048576) fun y1 =>
  bif (ilt y1 0) then
    some true
  else
    Option.bind (g_w_toSkinPointS aPoints) fun y2 =>
    Option.bind (g_s_EvenWeights y2) fun y3 =>
    Option.bind (g_w_toSkinPointS aPoints) fun y4 =>
    Option.bind (g_i_EvenWeights y4) fun y5 =>
    Option.bind (g_w_eqSkinPointS y5.1 y3.1) fun y6 =>
    bif (!y6) then
      some false
    else
      bif (!(y5.2.1 == y3.2.1)) then
        some false
      else
        Option.bind (g_w_toSkinPointS aPoints) fun y7 =>
        Option.bind (g_w_eqSkinPointS y4 y7) fun y8 =>
        bif (!y8) then
          some false
        else
          Option.bind (g_w_markSkinPointS y4 1) fun y9 =>
          bif (ilt y9.1 0) then
            some false
          else
            Option.bind (g_w_eqSkinPointS y5.1 y3.1) fun y10 =>
            bif (!y10) then
              some false
            else
              bif (!(y5.2.1 == y3.2.1)) then
                some false
              else
                Option.bind (g_w_markSkinPointS y5.1 1) fun y11 =>
                Option.bind (g_w_heldSkinPointS y11.2.1 1) fun y12 =>
                bif (ilt y12 0) then
                  some false
                else
                  bif (!(ieq y12 y11.1)) then
                    some false
                  else
                    Option.bind (g_w_toSkinPointS aPoints) fun y13 =>
                    Option.bind (g_i_EvenWeights y13) fun y14 =>
                    Option.bind (g_w_eqSkinPointS y14.1 y3.1) fun y15 =>
                    bif (!y15) then
                      some false
                    else
                      bif (!(y14.2.1 == y3.2.1)) then
                        some false
                      else
                        Option.bind (g_w_heldSkinPointS y11.2.1 1) fun y16 =>
                        bif (ilt y16 0) then
                          some false
                        else
                          bif (!(ieq y16 y11.1)) then
                            some false
                          else
                            some true


def L_s_l04Lengths_1 (rec' : ((List dVec) × Int × Unit) × ((List Nat) × Unit) → Option ((Unit) × ((List Nat) × Unit))) (x : ((List dVec) × Int × Unit) × ((List Nat) × Unit)) : Option ((Unit) × ((List Nat) × Unit)) := match x with
  | ((points, i, ()), (r0, ())) =>
    bif (ilt i (((List.length points) : Nat) : Int)) then
      Option.bind (ix i (List.length points)) fun j1 =>
      Option.bind (ix (isub .i64 i 1) (List.length points)) fun j2 =>
      Option.bind (g_s_l01Long (t_s_l01Less (List.getD points j1 zVec) (List.getD points j2 zVec))) fun y3 =>
      bif (Nat.ble ((List.length r0) + 1) 4294967296) then
        rec' ((points, ((iadd .i64 i 1), ())), ((r0 ++ [y3]), ()))
      else
        none
    else
      some ((), (r0, ()))

def g_s_l04Lengths (points : (List dVec)) : Option ((List Nat)) :=
  Option.bind (iter L_s_l04Lengths_1 fuel ((points, (1, ())), ([], ()))) fun y1 =>
  some y1.2.1


def g_s_l01From (n : Int) : Option (Nat) :=
  some (t_float32frombits (iconv .u32 n))

def t_s_l01From (n : Int) : Nat :=
  (t_float32frombits (iconv .u32 n))

theorem q_s_l01From (n : Int) : g_s_l01From n = some (t_s_l01From n) := rfl


def g_s_l02Size (xx : Nat) : Option (Nat) :=
  Option.bind (g_s_l01Bits xx) fun y1 =>
  some (t_s_l01From (iandNot .i64 y1 2147483648))


def L_s_StretchOf_1 (rec' : (Nat × Int × Unit) × ((dString × Unit) × (List Nat) × Unit) → Option ((Nat × Unit) × (Unit))) (x : (Nat × Int × Unit) × ((dString × Unit) × (List Nat) × Unit)) : Option ((Nat × Unit) × (Unit)) := match x with
  | ((most, i, ()), ((b0, ()), r1, ())) =>
    bif (ilt i (((List.length r1) : Nat) : Int)) then
      Option.bind (ix i (List.length r1)) fun j1 =>
      Option.bind (ix i (List.length b0.2.2.2.1)) fun j2 =>
      Option.bind (g_s_l02Size (fsub .f32 (List.getD r1 j1 (0 : Nat)) (List.getD b0.2.2.2.1 j2 (0 : Nat)))) fun y3 =>
      bif (fgt .f32 y3 most) then
        rec' ((y3, ((iadd .i64 i 1), ())), ((b0, ()), (r1, ())))
      else
        rec' ((most, ((iadd .i64 i 1), ())), ((b0, ()), (r1, ())))
    else
      some ((most, ()), ())

def g_s_StretchOf (s : dString) : Option ((Nat × (Bool × Unit))) :=
  bif (!(t_s_l08Is s)) then
    some (0, (false, ()))
  else
    Option.bind (g_s_l04Lengths s.1) fun y1 =>
    Option.bind (iter L_s_StretchOf_1 fuel ((0, (0, ())), ((s, ()), (y1, ())))) fun y2 =>
    some (y2.1.1, (true, ()))


def L_i_distances_1 (rec' : ((List dVec) × Int × Int × Unit) × ((List Nat) × Unit) → Option ((Unit) × ((List Nat) × Unit))) (x : ((List dVec) × Int × Int × Unit) × ((List Nat) × Unit)) : Option ((Unit) × ((List Nat) × Unit)) := match x with
  | ((points, t10, t11, ()), (r0, ())) =>
    bif (ilt t11 t10) then
      Option.bind (ix (iadd .i64 t11 1) (List.length points)) fun j1 =>
      Option.bind (ix t11 (List.length points)) fun j2 =>
      Option.bind (g_i_LongOf (t_i_LessVectors (List.getD points j1 zVec) (List.getD points j2 zVec))) fun y3 =>
      Option.bind (ix t11 (List.length r0)) fun j4 =>
      rec' ((points, (t10, ((iadd .i64 t11 1), ()))), ((List.set r0 j4 y3), ()))
    else
      some ((), (r0, ()))

def g_i_distances (points : (List dVec)) : Option ((List Nat)) :=
  bif (mkOk (isub .i64 (((List.length points) : Nat) : Int) 1) (isub .i64 (((List.length points) : Nat) : Int) 1)) then
    Option.bind (iter L_i_distances_1 fuel ((points, ((((List.length (List.replicate (Int.toNat (isub .i64 (((List.length points) : Nat) : Int) 1)) 0)) : Nat) : Int), (0, ()))), ((List.replicate (Int.toNat (isub .i64 (((List.length points) : Nat) : Int) 1)) 0), ()))) fun y1 =>
    some y1.2.1
  else
    none


def g_i_size (xx : Nat) : Option (Nat) :=
  Option.bind (fconv .f64 .f32 (t_mathabs (fwide xx))) fun y1 =>
  some y1


def g_i_greater (a : Nat) (b : Nat) : Option (Nat) :=
  bif (fgt .f32 b a) then
    some b
  else
    some a

def t_i_greater (a : Nat) (b : Nat) : Nat :=
  bif (fgt .f32 b a) then
    b
  else
    a

theorem q_i_greater (a : Nat) (b : Nat) : g_i_greater a b = some (t_i_greater a b) := by
  unfold g_i_greater t_i_greater; simp only [bif_some_some]


def L_i_StretchOf_1 (rec' : (Nat × Int × Int × Unit) × ((dString × Unit) × (List Nat) × Unit) → Option ((Nat × Unit) × (Unit))) (x : (Nat × Int × Int × Unit) × ((dString × Unit) × (List Nat) × Unit)) : Option ((Nat × Unit) × (Unit)) := match x with
  | ((most, t13, t14, ()), ((b0, ()), r1, ())) =>
    bif (ilt t14 t13) then
      Option.bind (ix t14 (List.length r1)) fun j1 =>
      Option.bind (ix t14 (List.length b0.2.2.2.1)) fun j2 =>
      Option.bind (g_i_size (fsub .f32 (List.getD r1 j1 (0 : Nat)) (List.getD b0.2.2.2.1 j2 (0 : Nat)))) fun y3 =>
      rec' (((t_i_greater most y3), (t13, ((iadd .i64 t14 1), ()))), ((b0, ()), (r1, ())))
    else
      some ((most, ()), ())

def g_i_StretchOf (s : dString) : Option ((Nat × (Bool × Unit))) :=
  bif (!(t_i_ValidString s)) then
    some (0, (false, ()))
  else
    Option.bind (g_i_distances s.1) fun y1 =>
    Option.bind (iter L_i_StretchOf_1 fuel ((0, ((((List.length y1) : Nat) : Int), (0, ()))), ((s, ()), (y1, ())))) fun y2 =>
    some (y2.1.1, (true, ()))


def g_w_FnExactStretchOf (aS : dString) : Option (Bool) :=
  bif (ilt (t_w_szString aS 1048576) 0) then
    some true
  else
    Option.bind (g_w_toString aS) fun y1 =>
    Option.bind (g_s_StretchOf y1) fun y2 =>
    Option.bind (g_w_toString aS) fun y3 =>
    Option.bind (g_i_StretchOf y3) fun y4 =>
    bif (!(t_w_sameFloat (fwide y4.1) (fwide y2.1))) then
      some false
    else
      bif (!(y4.2.1 == y2.2.1)) then
        some false
      else
        Option.bind (g_w_toString aS) fun y5 =>
        Option.bind (g_w_eqString y3 y5) fun y6 =>
        bif (!y6) then
          some false
        else
          some true


def g_s_l03Pose (k : dSkel) (p : dPose) : Option (Bool) :=
  Option.bind (g_s_l03Is k) fun y1 =>
  bif y1 then
    some (ieq (((List.length p.2.1) : Nat) : Int) (((List.length k.1) : Nat) : Int))
  else
    some false


def g_s_l02Mul (a : dTurn) (b : dTurn) : Option (dTurn) :=
  some ((fsub .f32 (fsub .f32 (fsub .f32 (fmul .f32 a.1 b.1) (fmul .f32 a.2.1 b.2.1)) (fmul .f32 a.2.2.1 b.2.2.1)) (fmul .f32 a.2.2.2.1 b.2.2.2.1)), ((fsub .f32 (fadd .f32 (fadd .f32 (fmul .f32 a.1 b.2.1) (fmul .f32 a.2.1 b.1)) (fmul .f32 a.2.2.1 b.2.2.2.1)) (fmul .f32 a.2.2.2.1 b.2.2.1)), ((fadd .f32 (fadd .f32 (fsub .f32 (fmul .f32 a.1 b.2.2.1) (fmul .f32 a.2.1 b.2.2.2.1)) (fmul .f32 a.2.2.1 b.1)) (fmul .f32 a.2.2.2.1 b.2.1)), ((fadd .f32 (fsub .f32 (fadd .f32 (fmul .f32 a.1 b.2.2.2.1) (fmul .f32 a.2.1 b.2.2.1)) (fmul .f32 a.2.2.1 b.2.1)) (fmul .f32 a.2.2.2.1 b.1)), ()))))

def t_s_l02Mul (a : dTurn) (b : dTurn) : dTurn :=
  ((fsub .f32 (fsub .f32 (fsub .f32 (fmul .f32 a.1 b.1) (fmul .f32 a.2.1 b.2.1)) (fmul .f32 a.2.2.1 b.2.2.1)) (fmul .f32 a.2.2.2.1 b.2.2.2.1)), ((fsub .f32 (fadd .f32 (fadd .f32 (fmul .f32 a.1 b.2.1) (fmul .f32 a.2.1 b.1)) (fmul .f32 a.2.2.1 b.2.2.2.1)) (fmul .f32 a.2.2.2.1 b.2.2.1)), ((fadd .f32 (fadd .f32 (fsub .f32 (fmul .f32 a.1 b.2.2.1) (fmul .f32 a.2.1 b.2.2.2.1)) (fmul .f32 a.2.2.1 b.1)) (fmul .f32 a.2.2.2.1 b.2.1)), ((fadd .f32 (fsub .f32 (fadd .f32 (fmul .f32 a.1 b.2.2.2.1) (fmul .f32 a.2.1 b.2.2.1)) (fmul .f32 a.2.2.1 b.2.1)) (fmul .f32 a.2.2.2.1 b.1)), ()))))

theorem q_s_l02Mul (a : dTurn) (b : dTurn) : g_s_l02Mul a b = some (t_s_l02Mul a b) := rfl


def g_s_l02Axis (t : dTurn) : Option (dVec) :=
  some t.2

def t_s_l02Axis (t : dTurn) : dVec :=
  t.2

theorem q_s_l02Axis (t : dTurn) : g_s_l02Axis t = some (t_s_l02Axis t) := rfl


def g_s_l01Cross (a : dVec) (b : dVec) : Option (dVec) :=
  some ((fsub .f32 (fmul .f32 a.2.1 b.2.2.1) (fmul .f32 a.2.2.1 b.2.1)), ((fsub .f32 (fmul .f32 a.2.2.1 b.1) (fmul .f32 a.1 b.2.2.1)), ((fsub .f32 (fmul .f32 a.1 b.2.1) (fmul .f32 a.2.1 b.1)), ())))

def t_s_l01Cross (a : dVec) (b : dVec) : dVec :=
  ((fsub .f32 (fmul .f32 a.2.1 b.2.2.1) (fmul .f32 a.2.2.1 b.2.1)), ((fsub .f32 (fmul .f32 a.2.2.1 b.1) (fmul .f32 a.1 b.2.2.1)), ((fsub .f32 (fmul .f32 a.1 b.2.1) (fmul .f32 a.2.1 b.1)), ())))

theorem q_s_l01Cross (a : dVec) (b : dVec) : g_s_l01Cross a b = some (t_s_l01Cross a b) := rfl


def g_s_l02Rotate (t : dTurn) (v : dVec) : Option (dVec) :=
  some (t_s_l01Add (t_s_l01Add v (t_s_l01Scale (t_s_l01Scale (t_s_l01Cross (t_s_l02Axis t) v) 1073741824) t.1)) (t_s_l01Cross (t_s_l02Axis t) (t_s_l01Scale (t_s_l01Cross (t_s_l02Axis t) v) 1073741824)))

def t_s_l02Rotate (t : dTurn) (v : dVec) : dVec :=
  (t_s_l01Add (t_s_l01Add v (t_s_l01Scale (t_s_l01Scale (t_s_l01Cross (t_s_l02Axis t) v) 1073741824) t.1)) (t_s_l01Cross (t_s_l02Axis t) (t_s_l01Scale (t_s_l01Cross (t_s_l02Axis t) v) 1073741824)))

theorem q_s_l02Rotate (t : dTurn) (v : dVec) : g_s_l02Rotate t v = some (t_s_l02Rotate t v) := rfl


def L_s_l03World_1 (rec' : (dSkel × dPose × Int × Unit) × ((List dTurn) × (List dVec) × Unit) → Option ((Unit) × ((List dTurn) × (List dVec) × Unit))) (x : (dSkel × dPose × Int × Unit) × ((List dTurn) × (List dVec) × Unit)) : Option ((Unit) × ((List dTurn) × (List dVec) × Unit)) := match x with
  | ((k, p, i, ()), (r0, r1, ())) =>
    bif (ilt i (((List.length k.1) : Nat) : Int)) then
      Option.bind (ix i (List.length k.1)) fun j1 =>
      Option.bind (ix (List.getD k.1 j1 zRootKey).1 (List.length r0)) fun j2 =>
      Option.bind (ix i (List.length p.2.1)) fun j3 =>
      let e4 := (r0 ++ [(t_s_l02Mul (List.getD r0 j2 zTurn) (List.getD p.2.1 j3 zTurn))])
      bif (Nat.ble ((List.length r0) + 1) 4294967296) then
        Option.bind (ix (List.getD k.1 j1 zRootKey).1 (List.length r1)) fun j5 =>
        Option.bind (ix (List.getD k.1 j1 zRootKey).1 (List.length e4)) fun j6 =>
        bif (Nat.ble ((List.length r1) + 1) 4294967296) then
          rec' ((k, (p, ((iadd .i64 i 1), ()))), (e4, ((r1 ++ [(t_s_l01Add (List.getD r1 j5 zVec) (t_s_l02Rotate (List.getD e4 j6 zTurn) (List.getD k.1 j1 zRootKey).2.1))]), ())))
        else
          none
      else
        none
    else
      some ((), (r0, (r1, ())))

def g_s_l03World (k : dSkel) (p : dPose) : Option (((List dTurn) × ((List dVec) × Unit))) :=
  Option.bind (ix 0 (List.length p.2.1)) fun j1 =>
  Option.bind (iter L_s_l03World_1 fuel ((k, (p, (1, ()))), ([(List.getD p.2.1 j1 zTurn)], ([p.1], ())))) fun y2 =>
  some (y2.2.1, (y2.2.2.1, ()))


def g_s_l02Inverse (t : dTurn) : Option (dTurn) :=
  some (t.1, ((fneg .f32 t.2.1), ((fneg .f32 t.2.2.1), ((fneg .f32 t.2.2.2.1), ()))))

def t_s_l02Inverse (t : dTurn) : dTurn :=
  (t.1, ((fneg .f32 t.2.1), ((fneg .f32 t.2.2.1), ((fneg .f32 t.2.2.2.1), ()))))

theorem q_s_l02Inverse (t : dTurn) : g_s_l02Inverse t = some (t_s_l02Inverse t) := rfl


def L_s_l09Moves_1 (rec' : (Int × Int × Unit) × ((List dTurn) × (List dVec) × (List dTurn) × (List dVec) × (List dTurn) × (List dVec) × Unit) → Option ((Unit) × ((List dTurn) × (List dVec) × Unit))) (x : (Int × Int × Unit) × ((List dTurn) × (List dVec) × (List dTurn) × (List dVec) × (List dTurn) × (List dVec) × Unit)) : Option ((Unit) × ((List dTurn) × (List dVec) × Unit)) := match x with
  | ((t31, t32, ()), (r0, r1, r2, r3, r4, r5, ())) =>
    bif (ilt t32 t31) then
      Option.bind (ix t32 (List.length r2)) fun j1 =>
      Option.bind (ix t32 (List.length r0)) fun j2 =>
      bif (Nat.ble ((List.length r4) + 1) 4294967296) then
        Option.bind (ix t32 (List.length r3)) fun j3 =>
        Option.bind (ix t32 (List.length r1)) fun j4 =>
        bif (Nat.ble ((List.length r5) + 1) 4294967296) then
          rec' ((t31, ((iadd .i64 t32 1), ())), (r0, (r1, (r2, (r3, ((r4 ++ [(t_s_l02Mul (List.getD r2 j1 zTurn) (t_s_l02Inverse (List.getD r0 j2 zTurn)))]), ((r5 ++ [(t_s_l01Less (List.getD r3 j3 zVec) (t_s_l02Rotate (t_s_l02Mul (List.getD r2 j1 zTurn) (t_s_l02Inverse (List.getD r0 j2 zTurn))) (List.getD r1 j4 zVec)))]), ())))))))
        else
          none
      else
        none
    else
      some ((), (r4, (r5, ())))

def g_s_l09Moves (k : dSkel) (rest : dPose) (p : dPose) : Option (((List dTurn) × ((List dVec) × Unit))) :=
  Option.bind (g_s_l03World k rest) fun y1 =>
  Option.bind (g_s_l03World k p) fun y2 =>
  Option.bind (iter L_s_l09Moves_1 fuel (((((List.length y1.1) : Nat) : Int), (0, ())), (y1.1, (y1.2.1, (y2.1, (y2.2.1, ([], ([], ())))))))) fun y3 =>
  some (y3.2.1, (y3.2.2.1, ()))


def g_s_MovesOf (k : dSkel) (rest : dPose) (p : dPose) : Option (((List dTurn) × ((List dVec) × (Bool × Unit)))) :=
  Option.bind (g_s_l03Pose k rest) fun y1 =>
  bif (!y1) then
    some (([] : List dTurn), (([] : List dVec), (false, ())))
  else
    Option.bind (g_s_l03Pose k p) fun y2 =>
    bif (!y2) then
      some (([] : List dTurn), (([] : List dVec), (false, ())))
    else
      Option.bind (g_s_l09Moves k rest p) fun y3 =>
      some (y3.1, (y3.2.1, (true, ())))


def g_i_IsPose (k : dSkel) (p : dPose) : Option (Bool) :=
  Option.bind (g_i_ValidSkeleton k) fun y1 =>
  bif y1 then
    some (ieq (((List.length p.2.1) : Nat) : Int) (((List.length k.1) : Nat) : Int))
  else
    some false


def L_s_AssignSkin_2 (rec' : ((List dVec) × Int × Int × Nat × Int × Int × Int × Int × Unit) × ((List dVec) × (List dSkinPoint) × Unit) → Option (((List dVec) × Int × Int × Int × Int × Unit) × ((List dVec) × (List dSkinPoint) × Unit))) (x : ((List dVec) × Int × Int × Nat × Int × Int × Int × Int × Unit) × ((List dVec) × (List dSkinPoint) × Unit)) : Option (((List dVec) × Int × Int × Int × Int × Unit) × ((List dVec) × (List dSkinPoint) × Unit)) := match x with
  | ((places, i, best, least, t29, t30, t43, t44, ()), (r3, r4, ())) =>
    let e1 := (t29, (t30, (t43, ((iadd .i64 t44 1), ()))))
    let e2 := ((places, (i, (best, (least, e1)))), (r3, (r4, ())))
    bif (ilt t44 t43) then
      Option.bind (ix i (List.length places)) fun j3 =>
      Option.bind (ix t44 (List.length r3)) fun j4 =>
      Option.bind (g_s_l01Long (t_s_l01Less (List.getD places j3 zVec) (List.getD r3 j4 zVec))) fun y5 =>
      let e6 := ((places, (i, (t44, (y5, e1)))), (r3, (r4, ())))
      bif (flt .f32 y5 least) then
        rec' e6
      else
        bif (feq .f32 y5 y5) then
          bif (!(feq .f32 least least)) then
            rec' e6
          else
            rec' e2
        else
          rec' e2
    else
      some ((places, (i, (best, (t29, (t30, ()))))), (r3, (r4, ())))

def L_s_AssignSkin_1 (rec' : ((List dVec) × Int × Int × Unit) × ((List dVec) × (List dSkinPoint) × Unit) → Option ((Unit) × ((List dSkinPoint) × Unit))) (x : ((List dVec) × Int × Int × Unit) × ((List dVec) × (List dSkinPoint) × Unit)) : Option ((Unit) × ((List dSkinPoint) × Unit)) := match x with
  | ((places, t29, t30, ()), (r3, r4, ())) =>
    bif (ilt t30 t29) then
      Option.bind (ix t30 (List.length places)) fun j1 =>
      Option.bind (ix 0 (List.length r3)) fun j2 =>
      Option.bind (g_s_l01Long (t_s_l01Less (List.getD places j1 zVec) (List.getD r3 j2 zVec))) fun y3 =>
      Option.bind (iter L_s_AssignSkin_2 fuel ((places, (t30, (0, (y3, (t29, (t30, ((((List.length r3) : Nat) : Int), (0, ())))))))), (r3, (r4, ())))) fun y4 =>
      Option.bind (ix y4.1.2.1 (List.length y4.1.1)) fun j5 =>
      let e6 := (([] : List dSkinPoint) ++ [((List.getD y4.1.1 j5 zVec), ([y4.1.2.2.1], ([1065353216], ())))])
      bif (Nat.ble ((List.length y4.2.2.1) + (List.length e6)) 4294967296) then
        rec' ((y4.1.1, (y4.1.2.2.2.1, ((iadd .i64 y4.1.2.2.2.2.1 1), ()))), (y4.2.1, ((y4.2.2.1 ++ e6), ())))
      else
        none
    else
      some ((), (r4, ()))

def g_s_AssignSkin (k : dSkel) (rest : dPose) (places : (List dVec)) : Option (((List dSkinPoint) × (Bool × Unit))) :=
  Option.bind (g_s_l03Pose k rest) fun y1 =>
  bif (!y1) then
    some (([] : List dSkinPoint), (false, ()))
  else
    bif (ilt 24 (((List.length places) : Nat) : Int)) then
      some (([] : List dSkinPoint), (false, ()))
    else
      Option.bind (g_s_l03World k rest) fun y2 =>
      Option.bind (iter L_s_AssignSkin_1 fuel ((places, ((((List.length places) : Nat) : Int), (0, ()))), (y2.2.1, ((([] : List dSkinPoint) ++ []), ())))) fun y3 =>
      some (y3.2.1, (true, ()))


def L_s_SkinLinear_2 (rec' : ((List dSkinPoint) × Int × Int × Int × Int × Unit) × ((List dTurn) × (List dVec) × (List dVec) × (dSkinPoint × Unit) × (dVec × Unit) × Unit) → Option (((List dSkinPoint) × Int × Int × Unit) × ((List dTurn) × (List dVec) × (List dVec) × (dVec × Unit) × Unit))) (x : ((List dSkinPoint) × Int × Int × Int × Int × Unit) × ((List dTurn) × (List dVec) × (List dVec) × (dSkinPoint × Unit) × (dVec × Unit) × Unit)) : Option (((List dSkinPoint) × Int × Int × Unit) × ((List dTurn) × (List dVec) × (List dVec) × (dVec × Unit) × Unit)) := match x with
  | ((points, t35, t36, t46, t47, ()), (r3, r4, r5, (b6, ()), (b7, ()), ())) =>
    bif (ilt t47 t46) then
      Option.bind (ix t47 (List.length b6.2.1)) fun j1 =>
      Option.bind (ix (List.getD b6.2.1 j1 (0 : Int)) (List.length r3)) fun j2 =>
      Option.bind (ix (List.getD b6.2.1 j1 (0 : Int)) (List.length r4)) fun j3 =>
      Option.bind (ix t47 (List.length b6.2.2.1)) fun j4 =>
      rec' ((points, (t35, (t36, (t46, ((iadd .i64 t47 1), ()))))), (r3, (r4, (r5, ((b6, ()), (((t_s_l01Add b7 (t_s_l01Scale (t_s_l01Add (t_s_l02Rotate (List.getD r3 j2 zTurn) b6.1) (List.getD r4 j3 zVec)) (List.getD b6.2.2.1 j4 (0 : Nat)))), ()), ()))))))
    else
      some ((points, (t35, (t36, ()))), (r3, (r4, (r5, ((b7, ()), ())))))

def L_s_SkinLinear_1 (rec' : ((List dSkinPoint) × Int × Int × Unit) × ((List dTurn) × (List dVec) × (List dVec) × Unit) → Option ((Unit) × ((List dVec) × Unit))) (x : ((List dSkinPoint) × Int × Int × Unit) × ((List dTurn) × (List dVec) × (List dVec) × Unit)) : Option ((Unit) × ((List dVec) × Unit)) := match x with
  | ((points, t35, t36, ()), (r3, r4, r5, ())) =>
    bif (ilt t36 t35) then
      Option.bind (ix t36 (List.length points)) fun j1 =>
      Option.bind (iter L_s_SkinLinear_2 fuel ((points, (t35, (t36, ((((List.length (List.getD points j1 zSkinPoint).2.1) : Nat) : Int), (0, ()))))), (r3, (r4, (r5, (((List.getD points j1 zSkinPoint), ()), (((0, (0, (0, ()))), ()), ()))))))) fun y2 =>
      bif (Nat.ble ((List.length y2.2.2.2.1) + 1) 4294967296) then
        rec' ((y2.1.1, (y2.1.2.1, ((iadd .i64 y2.1.2.2.1 1), ()))), (y2.2.1, (y2.2.2.1, ((y2.2.2.2.1 ++ [y2.2.2.2.2.1.1]), ()))))
      else
        none
    else
      some ((), (r5, ()))

def g_s_SkinLinear (k : dSkel) (rest : dPose) (p : dPose) (points : (List dSkinPoint)) : Option (((List dVec) × (Bool × Unit))) :=
  Option.bind (g_s_l03Pose k rest) fun y1 =>
  bif (!y1) then
    some (([] : List dVec), (false, ()))
  else
    Option.bind (g_s_l03Pose k p) fun y2 =>
    bif (!y2) then
      some (([] : List dVec), (false, ()))
    else
      Option.bind (g_s_l09Skin k points) fun y3 =>
      bif (!y3) then
        some (([] : List dVec), (false, ()))
      else
        Option.bind (g_s_l09Moves k rest p) fun y4 =>
        Option.bind (iter L_s_SkinLinear_1 fuel ((points, ((((List.length points) : Nat) : Int), (0, ()))), (y4.1, (y4.2.1, ([], ()))))) fun y5 =>
        some (y5.2.1, (true, ()))


def g_i_canSkin (k : dSkel) (rest : dPose) (p : dPose) (points : (List dSkinPoint)) : Option (Bool) :=
  Option.bind (g_i_IsPose k rest) fun y1 =>
  bif y1 then
    Option.bind (g_i_IsPose k p) fun y2 =>
    bif y2 then
      Option.bind (g_i_IsSkin k points) fun y3 =>
      some y3
    else
      some false
  else
    some false


def g_s_l02Inner (a : dTurn) (b : dTurn) : Option (Nat) :=
  some (fadd .f32 (fadd .f32 (fadd .f32 (fmul .f32 a.1 b.1) (fmul .f32 a.2.1 b.2.1)) (fmul .f32 a.2.2.1 b.2.2.1)) (fmul .f32 a.2.2.2.1 b.2.2.2.1))

def t_s_l02Inner (a : dTurn) (b : dTurn) : Nat :=
  (fadd .f32 (fadd .f32 (fadd .f32 (fmul .f32 a.1 b.1) (fmul .f32 a.2.1 b.2.1)) (fmul .f32 a.2.2.1 b.2.2.1)) (fmul .f32 a.2.2.2.1 b.2.2.2.1))

theorem q_s_l02Inner (a : dTurn) (b : dTurn) : g_s_l02Inner a b = some (t_s_l02Inner a b) := rfl


def g_s_l02Opposite (t : dTurn) (inner : Nat) : Option (dTurn) :=
  bif (flt .f32 inner 0) then
    some ((fneg .f32 t.1), ((fneg .f32 t.2.1), ((fneg .f32 t.2.2.1), ((fneg .f32 t.2.2.2.1), ()))))
  else
    some t

def t_s_l02Opposite (t : dTurn) (inner : Nat) : dTurn :=
  bif (flt .f32 inner 0) then
    ((fneg .f32 t.1), ((fneg .f32 t.2.1), ((fneg .f32 t.2.2.1), ((fneg .f32 t.2.2.2.1), ()))))
  else
    t

theorem q_s_l02Opposite (t : dTurn) (inner : Nat) : g_s_l02Opposite t inner = some (t_s_l02Opposite t inner) := by
  unfold g_s_l02Opposite t_s_l02Opposite; simp only [bif_some_some]


def g_s_l02No  : Option (dTurn) :=
  some (1065353216, (0, (0, (0, ()))))

def t_s_l02No  : dTurn :=
  (1065353216, (0, (0, (0, ()))))

theorem q_s_l02No  : g_s_l02No  = some (t_s_l02No ) := rfl


def g_s_l02Mend (t : dTurn) : Option (dTurn) :=
  Option.bind (g_s_l01Sqrt (t_s_l02Inner t t)) fun y1 =>
  bif (feq .f32 y1 0) then
    some t_s_l02No
  else
    bif (!(t_s_l01Finite y1)) then
      some t_s_l02No
    else
      some ((fdiv .f32 t.1 y1), ((fdiv .f32 t.2.1 y1), ((fdiv .f32 t.2.2.1 y1), ((fdiv .f32 t.2.2.2.1 y1), ()))))


def L_s_l02Mix_1 (rec' : ((List dTurn) × (List Nat) × Int × Unit) × ((dTurn × Unit) × (dTurn × Unit) × Unit) → Option ((Unit) × ((dTurn × Unit) × (dTurn × Unit) × Unit))) (x : ((List dTurn) × (List Nat) × Int × Unit) × ((dTurn × Unit) × (dTurn × Unit) × Unit)) : Option ((Unit) × ((dTurn × Unit) × (dTurn × Unit) × Unit)) := match x with
  | ((list, weights, i, ()), ((b0, ()), (b1, ()), ())) =>
    bif (ilt i (((List.length list) : Nat) : Int)) then
      Option.bind (ix i (List.length list)) fun j1 =>
      Option.bind (ix 0 (List.length list)) fun j2 =>
      Option.bind (ix i (List.length list)) fun j3 =>
      let e4 := (t_s_l02Opposite (List.getD list j1 zTurn) (t_s_l02Inner (List.getD list j2 zTurn) (List.getD list j3 zTurn)))
      Option.bind (ix i (List.length weights)) fun j5 =>
      Option.bind (ix i (List.length weights)) fun j6 =>
      Option.bind (ix i (List.length weights)) fun j7 =>
      Option.bind (ix i (List.length weights)) fun j8 =>
      rec' ((list, (weights, ((iadd .i64 i 1), ()))), ((b0, ()), ((((fadd .f32 b1.1 (fmul .f32 e4.1 (List.getD weights j5 (0 : Nat)))), ((fadd .f32 b1.2.1 (fmul .f32 e4.2.1 (List.getD weights j6 (0 : Nat)))), ((fadd .f32 b1.2.2.1 (fmul .f32 e4.2.2.1 (List.getD weights j7 (0 : Nat)))), ((fadd .f32 b1.2.2.2.1 (fmul .f32 e4.2.2.2.1 (List.getD weights j8 (0 : Nat)))), ())))), ()), ())))
    else
      some ((), ((b0, ()), ((b1, ()), ())))

def g_s_l02Mix (list : (List dTurn)) (weights : (List Nat)) : Option (dTurn) :=
  let e1 := ((0, (0, (0, (0, ())))), ())
  Option.bind (iter L_s_l02Mix_1 fuel ((list, (weights, (0, ()))), (e1, (e1, ())))) fun y2 =>
  Option.bind (g_s_l02Mend y2.2.2.1.1) fun y3 =>
  some y3


def L_s_SkinMixed_2 (rec' : ((List dSkinPoint) × Int × Int × Int × Int × Unit) × ((List dTurn) × (List dVec) × (List dVec) × (dSkinPoint × Unit) × (dVec × Unit) × (List dTurn) × Unit) → Option (((List dSkinPoint) × Int × Int × Unit) × ((List dTurn) × (List dVec) × (List dVec) × (dSkinPoint × Unit) × (dVec × Unit) × (List dTurn) × Unit))) (x : ((List dSkinPoint) × Int × Int × Int × Int × Unit) × ((List dTurn) × (List dVec) × (List dVec) × (dSkinPoint × Unit) × (dVec × Unit) × (List dTurn) × Unit)) : Option (((List dSkinPoint) × Int × Int × Unit) × ((List dTurn) × (List dVec) × (List dVec) × (dSkinPoint × Unit) × (dVec × Unit) × (List dTurn) × Unit)) := match x with
  | ((points, t36, t37, t48, t49, ()), (r3, r4, r5, (b6, ()), (b7, ()), r8, ())) =>
    bif (ilt t49 t48) then
      Option.bind (ix t49 (List.length b6.2.1)) fun j1 =>
      Option.bind (ix (List.getD b6.2.1 j1 (0 : Int)) (List.length r3)) fun j2 =>
      bif (Nat.ble ((List.length r8) + 1) 4294967296) then
        Option.bind (ix (List.getD b6.2.1 j1 (0 : Int)) (List.length r4)) fun j3 =>
        Option.bind (ix t49 (List.length b6.2.2.1)) fun j4 =>
        rec' ((points, (t36, (t37, (t48, ((iadd .i64 t49 1), ()))))), (r3, (r4, (r5, ((b6, ()), (((t_s_l01Add b7 (t_s_l01Scale (List.getD r4 j3 zVec) (List.getD b6.2.2.1 j4 (0 : Nat)))), ()), ((r8 ++ [(List.getD r3 j2 zTurn)]), ())))))))
      else
        none
    else
      some ((points, (t36, (t37, ()))), (r3, (r4, (r5, ((b6, ()), ((b7, ()), (r8, ())))))))

def L_s_SkinMixed_1 (rec' : ((List dSkinPoint) × Int × Int × Unit) × ((List dTurn) × (List dVec) × (List dVec) × Unit) → Option ((Unit) × ((List dVec) × Unit))) (x : ((List dSkinPoint) × Int × Int × Unit) × ((List dTurn) × (List dVec) × (List dVec) × Unit)) : Option ((Unit) × ((List dVec) × Unit)) := match x with
  | ((points, t36, t37, ()), (r3, r4, r5, ())) =>
    bif (ilt t37 t36) then
      Option.bind (ix t37 (List.length points)) fun j1 =>
      Option.bind (iter L_s_SkinMixed_2 fuel ((points, (t36, (t37, ((((List.length (List.getD points j1 zSkinPoint).2.1) : Nat) : Int), (0, ()))))), (r3, (r4, (r5, (((List.getD points j1 zSkinPoint), ()), (((0, (0, (0, ()))), ()), ([], ())))))))) fun y2 =>
      Option.bind (g_s_l02Mix y2.2.2.2.2.2.2.1 y2.2.2.2.2.1.1.2.2.1) fun y3 =>
      bif (Nat.ble ((List.length y2.2.2.2.1) + 1) 4294967296) then
        rec' ((y2.1.1, (y2.1.2.1, ((iadd .i64 y2.1.2.2.1 1), ()))), (y2.2.1, (y2.2.2.1, ((y2.2.2.2.1 ++ [(t_s_l01Add (t_s_l02Rotate y3 y2.2.2.2.2.1.1.1) y2.2.2.2.2.2.1.1)]), ()))))
      else
        none
    else
      some ((), (r5, ()))

def g_s_SkinMixed (k : dSkel) (rest : dPose) (p : dPose) (points : (List dSkinPoint)) : Option (((List dVec) × (Bool × Unit))) :=
  Option.bind (g_s_l03Pose k rest) fun y1 =>
  bif (!y1) then
    some (([] : List dVec), (false, ()))
  else
    Option.bind (g_s_l03Pose k p) fun y2 =>
    bif (!y2) then
      some (([] : List dVec), (false, ()))
    else
      Option.bind (g_s_l09Skin k points) fun y3 =>
      bif (!y3) then
        some (([] : List dVec), (false, ()))
      else
        Option.bind (g_s_l09Moves k rest p) fun y4 =>
        Option.bind (iter L_s_SkinMixed_1 fuel ((points, ((((List.length points) : Nat) : Int), (0, ()))), (y4.1, (y4.2.1, ([], ()))))) fun y5 =>
        some (y5.2.1, (true, ()))


def L_s_l00Put_1 (rec' : ((List Int) × Int × Bool × Int × Unit) × ((List Int) × Unit) → Option ((Int × Bool × Unit) × ((List Int) × Unit))) (x : ((List Int) × Int × Bool × Int × Unit) × ((List Int) × Unit)) : Option ((Int × Bool × Unit) × ((List Int) × Unit)) := match x with
  | ((list, n, done, i, ()), (r0, ())) =>
    let e1 := (list, (n, (true, ((iadd .i64 i 1), ()))))
    let e2 := (list, (n, (done, ((iadd .i64 i 1), ()))))
    bif (ilt i (((List.length list) : Nat) : Int)) then
      bif (!done) then
        Option.bind (ix i (List.length list)) fun j3 =>
        bif (ile n (List.getD list j3 (0 : Int))) then
          Option.bind (ix i (List.length list)) fun j4 =>
          bif (ilt n (List.getD list j4 (0 : Int))) then
            bif (Nat.ble ((List.length r0) + 1) 4294967296) then
              Option.bind (ix i (List.length list)) fun j5 =>
              bif (Nat.ble ((List.length (r0 ++ [n])) + 1) 4294967296) then
                rec' (e1, (((r0 ++ [n]) ++ [(List.getD list j5 (0 : Int))]), ()))
              else
                none
            else
              none
          else
            Option.bind (ix i (List.length list)) fun j6 =>
            bif (Nat.ble ((List.length r0) + 1) 4294967296) then
              rec' (e1, ((r0 ++ [(List.getD list j6 (0 : Int))]), ()))
            else
              none
        else
          Option.bind (ix i (List.length list)) fun j7 =>
          bif (Nat.ble ((List.length r0) + 1) 4294967296) then
            rec' (e2, ((r0 ++ [(List.getD list j7 (0 : Int))]), ()))
          else
            none
      else
        Option.bind (ix i (List.length list)) fun j8 =>
        bif (Nat.ble ((List.length r0) + 1) 4294967296) then
          rec' (e2, ((r0 ++ [(List.getD list j8 (0 : Int))]), ()))
        else
          none
    else
      some ((n, (done, ())), (r0, ()))

def g_s_l00Put (list : (List Int)) (n : Int) : Option ((List Int)) :=
  Option.bind (iter L_s_l00Put_1 fuel ((list, (n, (false, (0, ())))), ([], ()))) fun y1 =>
  bif (!y1.1.2.1) then
    bif (Nat.ble ((List.length y1.2.1) + 1) 4294967296) then
      some (y1.2.1 ++ [y1.1.1])
    else
      none
  else
    some y1.2.1

end
end Go.Fw
