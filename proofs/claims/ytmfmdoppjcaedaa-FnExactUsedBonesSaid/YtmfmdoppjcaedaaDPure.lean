/- What the functions compute, as plain Lean functions. No condition. -/
import Derived.Test.YtmfmdoppjcaedaaGenTypes
set_option linter.unusedVariables false
namespace Go.Fw
noncomputable section
def g_w_szBoneS (a : (List dRootKey)) (left : Int) : Option (Int) :=
  bif (ilt (isub .i64 left (((List.length a) : Nat) : Int)) 0) then
    some (-1)
  else
    some (isub .i64 left (((List.length a) : Nat) : Int))

def t_w_szBoneS (a : (List dRootKey)) (left : Int) : Int :=
  bif (ilt (isub .i64 left (((List.length a) : Nat) : Int)) 0) then
    (-1)
  else
    (isub .i64 left (((List.length a) : Nat) : Int))

theorem q_w_szBoneS (a : (List dRootKey)) (left : Int) : g_w_szBoneS a left = some (t_w_szBoneS a left) := by
  unfold g_w_szBoneS t_w_szBoneS; simp only [bif_some_some]


def g_w_szSkeleton (a : dSkel) (left : Int) : Option (Int) :=
  bif (ilt (t_w_szBoneS a.1 left) 0) then
    some (-1)
  else
    some (t_w_szBoneS a.1 left)

def t_w_szSkeleton (a : dSkel) (left : Int) : Int :=
  bif (ilt (t_w_szBoneS a.1 left) 0) then
    (-1)
  else
    (t_w_szBoneS a.1 left)

theorem q_w_szSkeleton (a : dSkel) (left : Int) : g_w_szSkeleton a left = some (t_w_szSkeleton a left) := by
  unfold g_w_szSkeleton t_w_szSkeleton; simp only [bif_some_some]


def g_w_szInt64S (a : (List Int)) (left : Int) : Option (Int) :=
  bif (ilt (isub .i64 left (((List.length a) : Nat) : Int)) 0) then
    some (-1)
  else
    some (isub .i64 left (((List.length a) : Nat) : Int))

def t_w_szInt64S (a : (List Int)) (left : Int) : Int :=
  bif (ilt (isub .i64 left (((List.length a) : Nat) : Int)) 0) then
    (-1)
  else
    (isub .i64 left (((List.length a) : Nat) : Int))

theorem q_w_szInt64S (a : (List Int)) (left : Int) : g_w_szInt64S a left = some (t_w_szInt64S a left) := by
  unfold g_w_szInt64S t_w_szInt64S; simp only [bif_some_some]


def g_w_szFloat32S (a : (List Nat)) (left : Int) : Option (Int) :=
  bif (ilt (isub .i64 left (((List.length a) : Nat) : Int)) 0) then
    some (-1)
  else
    some (isub .i64 left (((List.length a) : Nat) : Int))

def t_w_szFloat32S (a : (List Nat)) (left : Int) : Int :=
  bif (ilt (isub .i64 left (((List.length a) : Nat) : Int)) 0) then
    (-1)
  else
    (isub .i64 left (((List.length a) : Nat) : Int))

theorem q_w_szFloat32S (a : (List Nat)) (left : Int) : g_w_szFloat32S a left = some (t_w_szFloat32S a left) := by
  unfold g_w_szFloat32S t_w_szFloat32S; simp only [bif_some_some]


def g_w_szSkinPoint (a : dSkinPoint) (left : Int) : Option (Int) :=
  let e1 := (t_w_szFloat32S a.2.2.1 (t_w_szInt64S a.2.1 left))
  bif (ilt (t_w_szInt64S a.2.1 left) 0) then
    some (-1)
  else
    bif (ilt e1 0) then
      some (-1)
    else
      some e1

def t_w_szSkinPoint (a : dSkinPoint) (left : Int) : Int :=
  let e1 := (t_w_szFloat32S a.2.2.1 (t_w_szInt64S a.2.1 left))
  bif (ilt (t_w_szInt64S a.2.1 left) 0) then
    (-1)
  else
    bif (ilt e1 0) then
      (-1)
    else
      e1

theorem q_w_szSkinPoint (a : dSkinPoint) (left : Int) : g_w_szSkinPoint a left = some (t_w_szSkinPoint a left) := by
  unfold g_w_szSkinPoint t_w_szSkinPoint; simp only [bif_some_some]


def L_w_szSkinPointS_1 (rec' : ((List dSkinPoint) × Int × Int × Int × Unit) × (Unit) → Option (Bool × ((Int × Int × Unit) × (Unit)))) (x : ((List dSkinPoint) × Int × Int × Int × Unit) × (Unit)) : Option (Bool × ((Int × Int × Unit) × (Unit))) := match x with
  | ((a, left, t4, i, ()), (())) =>
    bif (ilt i (((List.length a) : Nat) : Int)) then
      Option.bind (ix i (List.length a)) fun j1 =>
      bif (ilt (t_w_szSkinPoint (List.getD a j1 zSkinPoint) left) 0) then
        some (true, (((t_w_szSkinPoint (List.getD a j1 zSkinPoint) left), ((-1), ())), ()))
      else
        rec' ((a, ((t_w_szSkinPoint (List.getD a j1 zSkinPoint) left), (t4, ((iadd .i64 i 1), ())))), ())
    else
      some (false, ((left, (t4, ())), ()))

def g_w_szSkinPointS (a : (List dSkinPoint)) (left : Int) : Option (Int) :=
  bif (ilt (isub .i64 left (((List.length a) : Nat) : Int)) 0) then
    some (-1)
  else
    Option.bind (iter L_w_szSkinPointS_1 fuel ((a, ((isub .i64 left (((List.length a) : Nat) : Int)), (0, (0, ())))), ())) fun y1 =>
    bif y1.1 then
      some y1.2.1.2.1
    else
      some y1.2.1.1


def g_w_toVector (a : dVec) : Option (dVec) :=
  some a

def t_w_toVector (a : dVec) : dVec :=
  a

theorem q_w_toVector (a : dVec) : g_w_toVector a = some (t_w_toVector a) := rfl


def g_w_toBone (a : dRootKey) : Option (dRootKey) :=
  some (a.1, ((t_w_toVector a.2.1), ()))

def t_w_toBone (a : dRootKey) : dRootKey :=
  (a.1, ((t_w_toVector a.2.1), ()))

theorem q_w_toBone (a : dRootKey) : g_w_toBone a = some (t_w_toBone a) := rfl


def L_w_toBoneS_1 (rec' : ((List dRootKey) × Int × Unit) × ((List dRootKey) × Unit) → Option ((Unit) × ((List dRootKey) × Unit))) (x : ((List dRootKey) × Int × Unit) × ((List dRootKey) × Unit)) : Option ((Unit) × ((List dRootKey) × Unit)) := match x with
  | ((a, i, ()), (r0, ())) =>
    bif (ilt i (((List.length a) : Nat) : Int)) then
      Option.bind (ix i (List.length a)) fun j1 =>
      Option.bind (ix i (List.length r0)) fun j2 =>
      rec' ((a, ((iadd .i64 i 1), ())), ((List.set r0 j2 (t_w_toBone (List.getD a j1 zRootKey))), ()))
    else
      some ((), (r0, ()))

def g_w_toBoneS (a : (List dRootKey)) : Option ((List dRootKey)) :=
  bif (mkOk (((List.length a) : Nat) : Int) (((List.length a) : Nat) : Int)) then
    Option.bind (iter L_w_toBoneS_1 fuel ((a, (0, ())), ((List.replicate (List.length a) (0, ((0, (0, (0, ()))), ()))), ()))) fun y1 =>
    some y1.2.1
  else
    none


def g_w_toSkeleton (a : dSkel) : Option (dSkel) :=
  Option.bind (g_w_toBoneS a.1) fun y1 =>
  some (y1, ())


def L_w_toInt64S_1 (rec' : ((List Int) × Int × Unit) × ((List Int) × Unit) → Option ((Unit) × ((List Int) × Unit))) (x : ((List Int) × Int × Unit) × ((List Int) × Unit)) : Option ((Unit) × ((List Int) × Unit)) := match x with
  | ((a, i, ()), (r0, ())) =>
    bif (ilt i (((List.length a) : Nat) : Int)) then
      Option.bind (ix i (List.length a)) fun j1 =>
      Option.bind (ix i (List.length r0)) fun j2 =>
      rec' ((a, ((iadd .i64 i 1), ())), ((List.set r0 j2 (List.getD a j1 (0 : Int))), ()))
    else
      some ((), (r0, ()))

def g_w_toInt64S (a : (List Int)) : Option ((List Int)) :=
  bif (mkOk (((List.length a) : Nat) : Int) (((List.length a) : Nat) : Int)) then
    Option.bind (iter L_w_toInt64S_1 fuel ((a, (0, ())), ((List.replicate (List.length a) 0), ()))) fun y1 =>
    some y1.2.1
  else
    none


def L_w_toFloat32S_1 (rec' : ((List Nat) × Int × Unit) × ((List Nat) × Unit) → Option ((Unit) × ((List Nat) × Unit))) (x : ((List Nat) × Int × Unit) × ((List Nat) × Unit)) : Option ((Unit) × ((List Nat) × Unit)) := match x with
  | ((a, i, ()), (r0, ())) =>
    bif (ilt i (((List.length a) : Nat) : Int)) then
      Option.bind (ix i (List.length a)) fun j1 =>
      Option.bind (ix i (List.length r0)) fun j2 =>
      rec' ((a, ((iadd .i64 i 1), ())), ((List.set r0 j2 (List.getD a j1 (0 : Nat))), ()))
    else
      some ((), (r0, ()))

def g_w_toFloat32S (a : (List Nat)) : Option ((List Nat)) :=
  bif (mkOk (((List.length a) : Nat) : Int) (((List.length a) : Nat) : Int)) then
    Option.bind (iter L_w_toFloat32S_1 fuel ((a, (0, ())), ((List.replicate (List.length a) 0), ()))) fun y1 =>
    some y1.2.1
  else
    none


def g_w_toSkinPoint (a : dSkinPoint) : Option (dSkinPoint) :=
  Option.bind (g_w_toInt64S a.2.1) fun y1 =>
  Option.bind (g_w_toFloat32S a.2.2.1) fun y2 =>
  some ((t_w_toVector a.1), (y1, (y2, ())))


def L_w_toSkinPointS_1 (rec' : ((List dSkinPoint) × Int × Unit) × ((List dSkinPoint) × Unit) → Option ((Unit) × ((List dSkinPoint) × Unit))) (x : ((List dSkinPoint) × Int × Unit) × ((List dSkinPoint) × Unit)) : Option ((Unit) × ((List dSkinPoint) × Unit)) := match x with
  | ((a, i, ()), (r0, ())) =>
    bif (ilt i (((List.length a) : Nat) : Int)) then
      Option.bind (ix i (List.length a)) fun j1 =>
      Option.bind (g_w_toSkinPoint (List.getD a j1 zSkinPoint)) fun y2 =>
      Option.bind (ix i (List.length r0)) fun j3 =>
      rec' ((a, ((iadd .i64 i 1), ())), ((List.set r0 j3 y2), ()))
    else
      some ((), (r0, ()))

def g_w_toSkinPointS (a : (List dSkinPoint)) : Option ((List dSkinPoint)) :=
  bif (mkOk (((List.length a) : Nat) : Int) (((List.length a) : Nat) : Int)) then
    Option.bind (iter L_w_toSkinPointS_1 fuel ((a, (0, ())), ((List.replicate (List.length a) ((0, (0, (0, ()))), (([] : List Int), (([] : List Nat), ())))), ()))) fun y1 =>
    some y1.2.1
  else
    none


def g_s_l00In (n : Int) (low : Int) (high : Int) : Option (Bool) :=
  bif (ile low n) then
    some (ile n high)
  else
    some false

def t_s_l00In (n : Int) (low : Int) (high : Int) : Bool :=
  bif (ile low n) then
    (ile n high)
  else
    false

theorem q_s_l00In (n : Int) (low : Int) (high : Int) : g_s_l00In n low high = some (t_s_l00In n low high) := by
  unfold g_s_l00In t_s_l00In; simp only [bif_some_some]


def L_s_l03Is_1 (rec' : (dSkel × Bool × Int × Int × Unit) × (Unit) → Option (Bool × ((Bool × Unit) × (Unit)))) (x : (dSkel × Bool × Int × Int × Unit) × (Unit)) : Option (Bool × ((Bool × Unit) × (Unit))) := match x with
  | ((k, t2, n, i, ()), (())) =>
    bif (ilt i n) then
      Option.bind (ix i (List.length k.1)) fun j1 =>
      bif (!(t_s_l00In (List.getD k.1 j1 zRootKey).1 0 (isub .i64 i 1))) then
        some (true, ((false, ()), ()))
      else
        rec' ((k, (t2, (n, ((iadd .i64 i 1), ())))), ())
    else
      some (false, ((t2, ()), ()))

def g_s_l03Is (k : dSkel) : Option (Bool) :=
  bif (!(t_s_l00In (((List.length k.1) : Nat) : Int) 1 12)) then
    some false
  else
    Option.bind (ix 0 (List.length k.1)) fun j1 =>
    bif (!(ieq (List.getD k.1 j1 zRootKey).1 (-1))) then
      some false
    else
      Option.bind (iter L_s_l03Is_1 fuel ((k, (false, ((((List.length k.1) : Nat) : Int), (1, ())))), ())) fun y2 =>
      bif y2.1 then
        some y2.2.1.1
      else
        some true


def g_s_l09Point (xx : dSkinPoint) : Option (Bool) :=
  bif (ile 1 (((List.length xx.2.1) : Nat) : Int)) then
    bif (ile (((List.length xx.2.1) : Nat) : Int) 4) then
      some (ieq (((List.length xx.2.2.1) : Nat) : Int) (((List.length xx.2.1) : Nat) : Int))
    else
      some false
  else
    some false

def t_s_l09Point (xx : dSkinPoint) : Bool :=
  bif (ile 1 (((List.length xx.2.1) : Nat) : Int)) then
    bif (ile (((List.length xx.2.1) : Nat) : Int) 4) then
      (ieq (((List.length xx.2.2.1) : Nat) : Int) (((List.length xx.2.1) : Nat) : Int))
    else
      false
  else
    false

theorem q_s_l09Point (xx : dSkinPoint) : g_s_l09Point xx = some (t_s_l09Point xx) := by
  unfold g_s_l09Point t_s_l09Point; simp only [bif_some_some]


def L_s_l00Rises_1 (rec' : ((List Int) × Int × Int × Bool × Int × Unit) × (Unit) → Option (Bool × ((Bool × Unit) × (Unit)))) (x : ((List Int) × Int × Int × Bool × Int × Unit) × (Unit)) : Option (Bool × ((Bool × Unit) × (Unit))) := match x with
  | ((list, low, high, t6, i, ()), (())) =>
    let e1 := ((list, (low, (high, (t6, ((iadd .i64 i 1), ()))))), ())
    bif (ilt i (((List.length list) : Nat) : Int)) then
      Option.bind (ix i (List.length list)) fun j2 =>
      bif (!(t_s_l00In (List.getD list j2 (0 : Int)) low high)) then
        some (true, ((false, ()), ()))
      else
        bif (ilt 0 i) then
          Option.bind (ix (isub .i64 i 1) (List.length list)) fun j3 =>
          Option.bind (ix i (List.length list)) fun j4 =>
          bif (ile (List.getD list j4 (0 : Int)) (List.getD list j3 (0 : Int))) then
            some (true, ((false, ()), ()))
          else
            rec' e1
        else
          rec' e1
    else
      some (false, ((t6, ()), ()))

def g_s_l00Rises (list : (List Int)) (low : Int) (high : Int) : Option (Bool) :=
  Option.bind (iter L_s_l00Rises_1 fuel ((list, (low, (high, (false, (0, ()))))), ())) fun y1 =>
  bif y1.1 then
    some y1.2.1.1
  else
    some true


def L_s_l09Skin_1 (rec' : (dSkel × (List dSkinPoint) × Bool × Int × Int × Unit) × (Unit) → Option (Bool × (((List dSkinPoint) × Bool × Unit) × (Unit)))) (x : (dSkel × (List dSkinPoint) × Bool × Int × Int × Unit) × (Unit)) : Option (Bool × (((List dSkinPoint) × Bool × Unit) × (Unit))) := match x with
  | ((k, points, t4, t7, t8, ()), (())) =>
    let e1 := (true, ((points, (false, ())), ()))
    bif (ilt t8 t7) then
      Option.bind (ix t8 (List.length points)) fun j2 =>
      bif (!(t_s_l09Point (List.getD points j2 zSkinPoint))) then
        some e1
      else
        Option.bind (ix t8 (List.length points)) fun j3 =>
        Option.bind (g_s_l00Rises (List.getD points j3 zSkinPoint).2.1 0 (isub .i64 (((List.length k.1) : Nat) : Int) 1)) fun y4 =>
        bif (!y4) then
          some e1
        else
          rec' ((k, (points, (t4, (t7, ((iadd .i64 t8 1), ()))))), ())
    else
      some (false, ((points, (t4, ())), ()))

def g_s_l09Skin (k : dSkel) (points : (List dSkinPoint)) : Option (Bool) :=
  Option.bind (iter L_s_l09Skin_1 fuel ((k, (points, (false, ((((List.length points) : Nat) : Int), (0, ()))))), ())) fun y1 =>
  bif y1.1 then
    some y1.2.1.2.1
  else
    some (ile (((List.length y1.2.1.1) : Nat) : Int) 24)


def L_s_l00Put_1 (rec' : ((List Int) × Int × Bool × Int × Unit) × ((List Int) × Unit) → Option ((Int × Bool × Unit) × ((List Int) × Unit))) (x : ((List Int) × Int × Bool × Int × Unit) × ((List Int) × Unit)) : Option ((Int × Bool × Unit) × ((List Int) × Unit)) := match x with
  | ((list, n, done, i, ()), (r0, ())) =>
    let e1 := (list, (n, (true, ((iadd .i64 i 1), ()))))
    let e2 := (list, (n, (done, ((iadd .i64 i 1), ()))))
    bif (ilt i (((List.length list) : Nat) : Int)) then
      bif (!done) then
        Option.bind (ix i (List.length list)) fun j3 =>
        bif (ile n (List.getD list j3 (0 : Int))) then
          Option.bind (ix i (List.length list)) fun j4 =>
          bif (ilt n (List.getD list j4 (0 : Int))) then
            bif (Nat.ble ((List.length r0) + 1) 4294967296) then
              Option.bind (ix i (List.length list)) fun j5 =>
              bif (Nat.ble ((List.length (r0 ++ [n])) + 1) 4294967296) then
                rec' (e1, (((r0 ++ [n]) ++ [(List.getD list j5 (0 : Int))]), ()))
              else
                none
            else
              none
          else
            Option.bind (ix i (List.length list)) fun j6 =>
            bif (Nat.ble ((List.length r0) + 1) 4294967296) then
              rec' (e1, ((r0 ++ [(List.getD list j6 (0 : Int))]), ()))
            else
              none
        else
          Option.bind (ix i (List.length list)) fun j7 =>
          bif (Nat.ble ((List.length r0) + 1) 4294967296) then
            rec' (e2, ((r0 ++ [(List.getD list j7 (0 : Int))]), ()))
          else
            none
      else
        Option.bind (ix i (List.length list)) fun j8 =>
        bif (Nat.ble ((List.length r0) + 1) 4294967296) then
          rec' (e2, ((r0 ++ [(List.getD list j8 (0 : Int))]), ()))
        else
          none
    else
      some ((n, (done, ())), (r0, ()))

def g_s_l00Put (list : (List Int)) (n : Int) : Option ((List Int)) :=
  Option.bind (iter L_s_l00Put_1 fuel ((list, (n, (false, (0, ())))), ([], ()))) fun y1 =>
  bif (!y1.1.2.1) then
    bif (Nat.ble ((List.length y1.2.1) + 1) 4294967296) then
      some (y1.2.1 ++ [y1.1.1])
    else
      none
  else
    some y1.2.1


def L_s_UsedBones_2 (rec' : ((List dSkinPoint) × Int × Int × Int × Int × Int × Unit) × ((List Int) × Unit) → Option (((List dSkinPoint) × Int × Int × Unit) × ((List Int) × Unit))) (x : ((List dSkinPoint) × Int × Int × Int × Int × Int × Unit) × ((List Int) × Unit)) : Option (((List dSkinPoint) × Int × Int × Unit) × ((List Int) × Unit)) := match x with
  | ((points, i, t18, t19, t27, t28, ()), (r1, ())) =>
    bif (ilt t28 t27) then
      Option.bind (ix i (List.length points)) fun j1 =>
      Option.bind (ix t28 (List.length (List.getD points j1 zSkinPoint).2.1)) fun j2 =>
      Option.bind (g_s_l00Put r1 (List.getD (List.getD points j1 zSkinPoint).2.1 j2 (0 : Int))) fun y3 =>
      rec' ((points, (i, (t18, (t19, (t27, ((iadd .i64 t28 1), ())))))), (y3, ()))
    else
      some ((points, (t18, (t19, ()))), (r1, ()))

def L_s_UsedBones_1 (rec' : ((List dSkinPoint) × Int × Int × Unit) × ((List Int) × Unit) → Option ((Unit) × ((List Int) × Unit))) (x : ((List dSkinPoint) × Int × Int × Unit) × ((List Int) × Unit)) : Option ((Unit) × ((List Int) × Unit)) := match x with
  | ((points, t18, t19, ()), (r1, ())) =>
    bif (ilt t19 t18) then
      Option.bind (ix t19 (List.length points)) fun j1 =>
      Option.bind (iter L_s_UsedBones_2 fuel ((points, (t19, (t18, (t19, ((((List.length (List.getD points j1 zSkinPoint).2.1) : Nat) : Int), (0, ())))))), (r1, ()))) fun y2 =>
      rec' ((y2.1.1, (y2.1.2.1, ((iadd .i64 y2.1.2.2.1 1), ()))), (y2.2.1, ()))
    else
      some ((), (r1, ()))

def g_s_UsedBones (k : dSkel) (points : (List dSkinPoint)) : Option (((List Int) × (Bool × Unit))) :=
  Option.bind (g_s_l03Is k) fun y1 =>
  bif (!y1) then
    some (([] : List Int), (false, ()))
  else
    Option.bind (g_s_l09Skin k points) fun y2 =>
    bif (!y2) then
      some (([] : List Int), (false, ()))
    else
      Option.bind (iter L_s_UsedBones_1 fuel ((points, ((((List.length points) : Nat) : Int), (0, ()))), ([], ()))) fun y3 =>
      some (y3.2.1, (true, ()))


def L_i_ValidSkeleton_1 (rec' : (Bool × (List dRootKey) × Int × Int × Unit) × (Unit) → Option (Bool × ((Bool × Unit) × (Unit)))) (x : (Bool × (List dRootKey) × Int × Int × Unit) × (Unit)) : Option (Bool × ((Bool × Unit) × (Unit))) := match x with
  | ((t2, t25, t26, t27, ()), (())) =>
    bif (ilt t27 t26) then
      Option.bind (ix t27 (List.length t25)) fun j1 =>
      bif (ilt (List.getD t25 j1 zRootKey).1 0) then
        some (true, ((false, ()), ()))
      else
        bif (ilt t27 (List.getD t25 j1 zRootKey).1) then
          some (true, ((false, ()), ()))
        else
          rec' ((t2, (t25, (t26, ((iadd .i64 t27 1), ())))), ())
    else
      some (false, ((t2, ()), ()))

def g_i_ValidSkeleton (k : dSkel) : Option (Bool) :=
  bif (ilt (((List.length k.1) : Nat) : Int) 1) then
    some false
  else
    bif (ilt 12 (((List.length k.1) : Nat) : Int)) then
      some false
    else
      Option.bind (ix 0 (List.length k.1)) fun j1 =>
      bif (!(ieq (List.getD k.1 j1 zRootKey).1 (-1))) then
        some false
      else
        bif (decide ((1 : Int) ≤ (((List.length k.1) : Nat) : Int))) then
          Option.bind (iter L_i_ValidSkeleton_1 fuel ((false, ((List.drop 1 (List.take (List.length k.1) k.1)), ((((List.length (List.drop 1 (List.take (List.length k.1) k.1))) : Nat) : Int), (0, ())))), ())) fun y2 =>
          bif y2.1 then
            some y2.2.1.1
          else
            some true
        else
          none


def g_i_SkinPoint_isHeld (p : dSkinPoint) : Option (Bool) :=
  bif (ile 1 (((List.length p.2.1) : Nat) : Int)) then
    bif (ile (((List.length p.2.1) : Nat) : Int) 4) then
      some (ieq (((List.length p.2.2.1) : Nat) : Int) (((List.length p.2.1) : Nat) : Int))
    else
      some false
  else
    some false

def t_i_SkinPoint_isHeld (p : dSkinPoint) : Bool :=
  bif (ile 1 (((List.length p.2.1) : Nat) : Int)) then
    bif (ile (((List.length p.2.1) : Nat) : Int) 4) then
      (ieq (((List.length p.2.2.1) : Nat) : Int) (((List.length p.2.1) : Nat) : Int))
    else
      false
  else
    false

theorem q_i_SkinPoint_isHeld (p : dSkinPoint) : g_i_SkinPoint_isHeld p = some (t_i_SkinPoint_isHeld p) := by
  unfold g_i_SkinPoint_isHeld t_i_SkinPoint_isHeld; simp only [bif_some_some]


def L_i_IsSkin_2 (rec' : (Bool × Int × (List dSkinPoint) × Int × Int × (List Int) × Int × Int × Unit) × ((dSkel × Unit) × Unit) → Option (Bool × ((Bool × (List dSkinPoint) × Int × Int × Unit) × ((dSkel × Unit) × Unit)))) (x : (Bool × Int × (List dSkinPoint) × Int × Int × (List Int) × Int × Int × Unit) × ((dSkel × Unit) × Unit)) : Option (Bool × ((Bool × (List dSkinPoint) × Int × Int × Unit) × ((dSkel × Unit) × Unit))) := match x with
  | ((t4, last, t18, t19, t20, t28, t29, t30, ()), ((b0, ()), ())) =>
    let e1 := (true, ((false, (t18, (t19, (t20, ())))), ((b0, ()), ())))
    bif (ilt t30 t29) then
      Option.bind (ix t30 (List.length t28)) fun j2 =>
      bif (ile (List.getD t28 j2 (0 : Int)) last) then
        some e1
      else
        bif (ile (((List.length b0.1) : Nat) : Int) (List.getD t28 j2 (0 : Int))) then
          some e1
        else
          rec' ((t4, ((List.getD t28 j2 (0 : Int)), (t18, (t19, (t20, (t28, (t29, ((iadd .i64 t30 1), ())))))))), ((b0, ()), ()))
    else
      some (false, ((t4, (t18, (t19, (t20, ())))), ((b0, ()), ())))

def L_i_IsSkin_1 (rec' : (Bool × (List dSkinPoint) × Int × Int × Unit) × ((dSkel × Unit) × Unit) → Option (Bool × ((Bool × Unit) × (Unit)))) (x : (Bool × (List dSkinPoint) × Int × Int × Unit) × ((dSkel × Unit) × Unit)) : Option (Bool × ((Bool × Unit) × (Unit))) := match x with
  | ((t4, t18, t19, t20, ()), ((b0, ()), ())) =>
    bif (ilt t20 t19) then
      Option.bind (ix t20 (List.length t18)) fun j1 =>
      bif (!(t_i_SkinPoint_isHeld (List.getD t18 j1 zSkinPoint))) then
        some (true, ((false, ()), ()))
      else
        Option.bind (iter L_i_IsSkin_2 fuel ((t4, ((-1), (t18, (t19, (t20, ((List.getD t18 j1 zSkinPoint).2.1, ((((List.length (List.getD t18 j1 zSkinPoint).2.1) : Nat) : Int), (0, ())))))))), ((b0, ()), ()))) fun y2 =>
        bif y2.1 then
          some (true, ((y2.2.1.1, ()), ()))
        else
          rec' ((y2.2.1.1, (y2.2.1.2.1, (y2.2.1.2.2.1, ((iadd .i64 y2.2.1.2.2.2.1 1), ())))), ((y2.2.2.1.1, ()), ()))
    else
      some (false, ((t4, ()), ()))

def g_i_IsSkin (k : dSkel) (points : (List dSkinPoint)) : Option (Bool) :=
  Option.bind (g_i_ValidSkeleton k) fun y1 =>
  bif (!y1) then
    some false
  else
    bif (ilt 24 (((List.length points) : Nat) : Int)) then
      some false
    else
      Option.bind (iter L_i_IsSkin_1 fuel ((false, (points, ((((List.length points) : Nat) : Int), (0, ())))), ((k, ()), ()))) fun y2 =>
      bif y2.1 then
        some y2.2.1.1
      else
        some true


def L_i_UsedBones_1 (rec' : ((List dSkinPoint) × Int × Int × Unit) × ((List Int) × Unit) → Option ((Unit) × ((List Int) × Unit))) (x : ((List dSkinPoint) × Int × Int × Unit) × ((List Int) × Unit)) : Option ((Unit) × ((List Int) × Unit)) := match x with
  | ((t13, t14, t15, ()), (r1, ())) =>
    bif (ilt t15 t14) then
      Option.bind (ix t15 (List.length t13)) fun j1 =>
      bif (Nat.ble ((List.length r1) + (List.length (List.getD t13 j1 zSkinPoint).2.1)) 4294967296) then
        rec' ((t13, (t14, ((iadd .i64 t15 1), ()))), ((r1 ++ (List.getD t13 j1 zSkinPoint).2.1), ()))
      else
        none
    else
      some ((), (r1, ()))

def g_i_UsedBones (k : dSkel) (points : (List dSkinPoint)) : Option (((List Int) × (Bool × Unit))) :=
  Option.bind (g_i_IsSkin k points) fun y1 =>
  bif (!y1) then
    some (([] : List Int), (false, ()))
  else
    Option.bind (iter L_i_UsedBones_1 fuel ((points, ((((List.length points) : Nat) : Int), (0, ()))), (([] : List Int), ()))) fun y2 =>
    Option.bind (g_sortInt64 y2.2.1) fun y3 =>
    Option.bind (g_compactInt64 y3.2.1) fun y4 =>
    some (y4.1, (true, ()))


def L_w_eqInt64S_1 (rec' : ((List Int) × (List Int) × Bool × Int × Unit) × (Unit) → Option (Bool × ((Bool × Unit) × (Unit)))) (x : ((List Int) × (List Int) × Bool × Int × Unit) × (Unit)) : Option (Bool × ((Bool × Unit) × (Unit))) := match x with
  | ((a, b, t4, i, ()), (())) =>
    bif (ilt i (((List.length a) : Nat) : Int)) then
      Option.bind (ix i (List.length a)) fun j1 =>
      Option.bind (ix i (List.length b)) fun j2 =>
      bif (!(ieq (List.getD a j1 (0 : Int)) (List.getD b j2 (0 : Int)))) then
        some (true, ((false, ()), ()))
      else
        rec' ((a, (b, (t4, ((iadd .i64 i 1), ())))), ())
    else
      some (false, ((t4, ()), ()))

def g_w_eqInt64S (a : (List Int)) (b : (List Int)) : Option (Bool) :=
  bif (!(ieq (((List.length a) : Nat) : Int) (((List.length b) : Nat) : Int))) then
    some false
  else
    Option.bind (iter L_w_eqInt64S_1 fuel ((a, (b, (false, (0, ())))), ())) fun y1 =>
    bif y1.1 then
      some y1.2.1.1
    else
      some true


def g_w_sameFloat (a : Nat) (b : Nat) : Option (Bool) :=
  bif (!(feq .f64 a a)) then
    bif (!(feq .f64 a a)) then
      some (!(feq .f64 b b))
    else
      some false
  else
    bif (!(feq .f64 b b)) then
      bif (!(feq .f64 a a)) then
        some (!(feq .f64 b b))
      else
        some false
    else
      bif (feq .f64 a 0) then
        bif (feq .f64 b 0) then
          some ((fgt .f64 (fdiv .f64 4607182418800017408 a) 0) == (fgt .f64 (fdiv .f64 4607182418800017408 b) 0))
        else
          some (feq .f64 a b)
      else
        some (feq .f64 a b)

def t_w_sameFloat (a : Nat) (b : Nat) : Bool :=
  bif (!(feq .f64 a a)) then
    bif (!(feq .f64 a a)) then
      (!(feq .f64 b b))
    else
      false
  else
    bif (!(feq .f64 b b)) then
      bif (!(feq .f64 a a)) then
        (!(feq .f64 b b))
      else
        false
    else
      bif (feq .f64 a 0) then
        bif (feq .f64 b 0) then
          ((fgt .f64 (fdiv .f64 4607182418800017408 a) 0) == (fgt .f64 (fdiv .f64 4607182418800017408 b) 0))
        else
          (feq .f64 a b)
      else
        (feq .f64 a b)

theorem q_w_sameFloat (a : Nat) (b : Nat) : g_w_sameFloat a b = some (t_w_sameFloat a b) := by
  unfold g_w_sameFloat t_w_sameFloat; simp only [bif_some_some]


def g_w_eqVector (a : dVec) (b : dVec) : Option (Bool) :=
  bif (!(t_w_sameFloat (fwide a.1) (fwide b.1))) then
    some false
  else
    bif (!(t_w_sameFloat (fwide a.2.1) (fwide b.2.1))) then
      some false
    else
      bif (!(t_w_sameFloat (fwide a.2.2.1) (fwide b.2.2.1))) then
        some false
      else
        some true

def t_w_eqVector (a : dVec) (b : dVec) : Bool :=
  bif (!(t_w_sameFloat (fwide a.1) (fwide b.1))) then
    false
  else
    bif (!(t_w_sameFloat (fwide a.2.1) (fwide b.2.1))) then
      false
    else
      bif (!(t_w_sameFloat (fwide a.2.2.1) (fwide b.2.2.1))) then
        false
      else
        true

theorem q_w_eqVector (a : dVec) (b : dVec) : g_w_eqVector a b = some (t_w_eqVector a b) := by
  unfold g_w_eqVector t_w_eqVector; simp only [bif_some_some]


def g_w_eqBone (a : dRootKey) (b : dRootKey) : Option (Bool) :=
  bif (!(ieq a.1 b.1)) then
    some false
  else
    bif (!(t_w_eqVector a.2.1 b.2.1)) then
      some false
    else
      some true

def t_w_eqBone (a : dRootKey) (b : dRootKey) : Bool :=
  bif (!(ieq a.1 b.1)) then
    false
  else
    bif (!(t_w_eqVector a.2.1 b.2.1)) then
      false
    else
      true

theorem q_w_eqBone (a : dRootKey) (b : dRootKey) : g_w_eqBone a b = some (t_w_eqBone a b) := by
  unfold g_w_eqBone t_w_eqBone; simp only [bif_some_some]


def L_w_eqBoneS_1 (rec' : ((List dRootKey) × (List dRootKey) × Bool × Int × Unit) × (Unit) → Option (Bool × ((Bool × Unit) × (Unit)))) (x : ((List dRootKey) × (List dRootKey) × Bool × Int × Unit) × (Unit)) : Option (Bool × ((Bool × Unit) × (Unit))) := match x with
  | ((a, b, t4, i, ()), (())) =>
    bif (ilt i (((List.length a) : Nat) : Int)) then
      Option.bind (ix i (List.length a)) fun j1 =>
      Option.bind (ix i (List.length b)) fun j2 =>
      bif (!(t_w_eqBone (List.getD a j1 zRootKey) (List.getD b j2 zRootKey))) then
        some (true, ((false, ()), ()))
      else
        rec' ((a, (b, (t4, ((iadd .i64 i 1), ())))), ())
    else
      some (false, ((t4, ()), ()))

def g_w_eqBoneS (a : (List dRootKey)) (b : (List dRootKey)) : Option (Bool) :=
  bif (!(ieq (((List.length a) : Nat) : Int) (((List.length b) : Nat) : Int))) then
    some false
  else
    Option.bind (iter L_w_eqBoneS_1 fuel ((a, (b, (false, (0, ())))), ())) fun y1 =>
    bif y1.1 then
      some y1.2.1.1
    else
      some true


def g_w_eqSkeleton (a : dSkel) (b : dSkel) : Option (Bool) :=
  Option.bind (g_w_eqBoneS a.1 b.1) fun y1 =>
  bif (!y1) then
    some false
  else
    some true


def L_w_eqFloat32S_1 (rec' : ((List Nat) × (List Nat) × Bool × Int × Unit) × (Unit) → Option (Bool × ((Bool × Unit) × (Unit)))) (x : ((List Nat) × (List Nat) × Bool × Int × Unit) × (Unit)) : Option (Bool × ((Bool × Unit) × (Unit))) := match x with
  | ((a, b, t4, i, ()), (())) =>
    bif (ilt i (((List.length a) : Nat) : Int)) then
      Option.bind (ix i (List.length a)) fun j1 =>
      Option.bind (ix i (List.length b)) fun j2 =>
      bif (!(t_w_sameFloat (fwide (List.getD a j1 (0 : Nat))) (fwide (List.getD b j2 (0 : Nat))))) then
        some (true, ((false, ()), ()))
      else
        rec' ((a, (b, (t4, ((iadd .i64 i 1), ())))), ())
    else
      some (false, ((t4, ()), ()))

def g_w_eqFloat32S (a : (List Nat)) (b : (List Nat)) : Option (Bool) :=
  bif (!(ieq (((List.length a) : Nat) : Int) (((List.length b) : Nat) : Int))) then
    some false
  else
    Option.bind (iter L_w_eqFloat32S_1 fuel ((a, (b, (false, (0, ())))), ())) fun y1 =>
    bif y1.1 then
      some y1.2.1.1
    else
      some true


def g_w_eqSkinPoint (a : dSkinPoint) (b : dSkinPoint) : Option (Bool) :=
  bif (!(t_w_eqVector a.1 b.1)) then
    some false
  else
    Option.bind (g_w_eqInt64S a.2.1 b.2.1) fun y1 =>
    bif (!y1) then
      some false
    else
      Option.bind (g_w_eqFloat32S a.2.2.1 b.2.2.1) fun y2 =>
      bif (!y2) then
        some false
      else
        some true


def L_w_eqSkinPointS_1 (rec' : ((List dSkinPoint) × (List dSkinPoint) × Bool × Int × Unit) × (Unit) → Option (Bool × ((Bool × Unit) × (Unit)))) (x : ((List dSkinPoint) × (List dSkinPoint) × Bool × Int × Unit) × (Unit)) : Option (Bool × ((Bool × Unit) × (Unit))) := match x with
  | ((a, b, t4, i, ()), (())) =>
    bif (ilt i (((List.length a) : Nat) : Int)) then
      Option.bind (ix i (List.length a)) fun j1 =>
      Option.bind (ix i (List.length b)) fun j2 =>
      Option.bind (g_w_eqSkinPoint (List.getD a j1 zSkinPoint) (List.getD b j2 zSkinPoint)) fun y3 =>
      bif (!y3) then
        some (true, ((false, ()), ()))
      else
        rec' ((a, (b, (t4, ((iadd .i64 i 1), ())))), ())
    else
      some (false, ((t4, ()), ()))

def g_w_eqSkinPointS (a : (List dSkinPoint)) (b : (List dSkinPoint)) : Option (Bool) :=
  bif (!(ieq (((List.length a) : Nat) : Int) (((List.length b) : Nat) : Int))) then
    some false
  else
    Option.bind (iter L_w_eqSkinPointS_1 fuel ((a, (b, (false, (0, ())))), ())) fun y1 =>
    bif y1.1 then
      some y1.2.1.1
    else
      some true


def L_w_markBoneS_1 (rec' : (Int × Int × Unit) × ((List dRootKey) × Unit) → Option ((Int × Unit) × ((List dRootKey) × Unit))) (x : (Int × Int × Unit) × ((List dRootKey) × Unit)) : Option ((Int × Unit) × ((List dRootKey) × Unit)) := match x with
  | ((k, i, ()), (r0, ())) =>
    bif (ilt i (((List.length r0) : Nat) : Int)) then
      Option.bind (ix i (List.length r0)) fun j1 =>
      let e2 := (List.set r0 j1 (k, (List.getD r0 j1 zRootKey).2))
      Option.bind (ix i (List.length e2)) fun j3 =>
      let e4 := (List.getD e2 j3 zRootKey)
      let e5 := (List.set e2 j3 (e4.1, (((fofInt .f32 (iadd .i64 k 1)), e4.2.1.2), ())))
      Option.bind (ix i (List.length e5)) fun j6 =>
      let e7 := (List.getD e5 j6 zRootKey)
      let e8 := (List.set e5 j6 (e7.1, ((e7.2.1.1, ((fofInt .f32 (iadd .i64 (iadd .i64 k 1) 1)), e7.2.1.2.2)), ())))
      Option.bind (ix i (List.length e8)) fun j9 =>
      let e10 := (List.getD e8 j9 zRootKey)
      rec' (((iadd .i64 (iadd .i64 (iadd .i64 (iadd .i64 k 1) 1) 1) 1), ((iadd .i64 i 1), ())), ((List.set e8 j9 (e10.1, ((e10.2.1.1, (e10.2.1.2.1, ((fofInt .f32 (iadd .i64 (iadd .i64 (iadd .i64 k 1) 1) 1)), ()))), ()))), ()))
    else
      some ((k, ()), (r0, ()))

def g_w_markBoneS (a : (List dRootKey)) (k : Int) : Option (Int × ((List dRootKey) × Int × Unit)) :=
  Option.bind (iter L_w_markBoneS_1 fuel ((k, (0, ())), (a, ()))) fun y1 =>
  some (y1.1.1, (y1.2.1, (k, ())))


def g_w_markSkeleton (a : dSkel) (k : Int) : Option (Int × (dSkel × Int × Unit)) :=
  Option.bind (g_w_markBoneS a.1 k) fun y1 =>
  some (y1.1, ((y1.2.1, ()), (k, ())))


def L_w_markInt64S_1 (rec' : (Int × Int × Unit) × ((List Int) × Unit) → Option ((Int × Unit) × ((List Int) × Unit))) (x : (Int × Int × Unit) × ((List Int) × Unit)) : Option ((Int × Unit) × ((List Int) × Unit)) := match x with
  | ((k, i, ()), (r0, ())) =>
    bif (ilt i (((List.length r0) : Nat) : Int)) then
      Option.bind (ix i (List.length r0)) fun j1 =>
      rec' (((iadd .i64 k 1), ((iadd .i64 i 1), ())), ((List.set r0 j1 k), ()))
    else
      some ((k, ()), (r0, ()))

def g_w_markInt64S (a : (List Int)) (k : Int) : Option (Int × ((List Int) × Int × Unit)) :=
  Option.bind (iter L_w_markInt64S_1 fuel ((k, (0, ())), (a, ()))) fun y1 =>
  some (y1.1.1, (y1.2.1, (k, ())))


def L_w_markFloat32S_1 (rec' : (Int × Int × Unit) × ((List Nat) × Unit) → Option ((Int × Unit) × ((List Nat) × Unit))) (x : (Int × Int × Unit) × ((List Nat) × Unit)) : Option ((Int × Unit) × ((List Nat) × Unit)) := match x with
  | ((k, i, ()), (r0, ())) =>
    bif (ilt i (((List.length r0) : Nat) : Int)) then
      Option.bind (ix i (List.length r0)) fun j1 =>
      rec' (((iadd .i64 k 1), ((iadd .i64 i 1), ())), ((List.set r0 j1 (fofInt .f32 k)), ()))
    else
      some ((k, ()), (r0, ()))

def g_w_markFloat32S (a : (List Nat)) (k : Int) : Option (Int × ((List Nat) × Int × Unit)) :=
  Option.bind (iter L_w_markFloat32S_1 fuel ((k, (0, ())), (a, ()))) fun y1 =>
  some (y1.1.1, (y1.2.1, (k, ())))


def L_w_markSkinPointS_1 (rec' : (Int × Int × Unit) × ((List dSkinPoint) × Unit) → Option ((Int × Unit) × ((List dSkinPoint) × Unit))) (x : (Int × Int × Unit) × ((List dSkinPoint) × Unit)) : Option ((Int × Unit) × ((List dSkinPoint) × Unit)) := match x with
  | ((k, i, ()), (r0, ())) =>
    bif (ilt i (((List.length r0) : Nat) : Int)) then
      Option.bind (ix i (List.length r0)) fun j1 =>
      let e2 := (List.set r0 j1 (((fofInt .f32 k), (List.getD r0 j1 zSkinPoint).1.2), (List.getD r0 j1 zSkinPoint).2))
      Option.bind (ix i (List.length e2)) fun j3 =>
      let e4 := (List.getD e2 j3 zSkinPoint)
      let e5 := (List.set e2 j3 ((e4.1.1, ((fofInt .f32 (iadd .i64 k 1)), e4.1.2.2)), e4.2))
      Option.bind (ix i (List.length e5)) fun j6 =>
      let e7 := (List.getD e5 j6 zSkinPoint)
      let e8 := (List.set e5 j6 ((e7.1.1, (e7.1.2.1, ((fofInt .f32 (iadd .i64 (iadd .i64 k 1) 1)), ()))), e7.2))
      Option.bind (ix i (List.length e8)) fun j9 =>
      let e10 := (List.getD e8 j9 zSkinPoint)
      Option.bind (g_w_markInt64S e10.2.1 (iadd .i64 (iadd .i64 (iadd .i64 k 1) 1) 1)) fun y11 =>
      let e12 := (List.set e8 j9 (e10.1, (y11.2.1, e10.2.2)))
      Option.bind (ix i (List.length e12)) fun j13 =>
      let e14 := (List.getD e12 j13 zSkinPoint)
      Option.bind (g_w_markFloat32S e14.2.2.1 y11.1) fun y15 =>
      rec' ((y15.1, ((iadd .i64 i 1), ())), ((List.set e12 j13 (e14.1, (e14.2.1, (y15.2.1, ())))), ()))
    else
      some ((k, ()), (r0, ()))

def g_w_markSkinPointS (a : (List dSkinPoint)) (k : Int) : Option (Int × ((List dSkinPoint) × Int × Unit)) :=
  Option.bind (iter L_w_markSkinPointS_1 fuel ((k, (0, ())), (a, ()))) fun y1 =>
  some (y1.1.1, (y1.2.1, (k, ())))


def L_w_heldInt64S_1 (rec' : ((List Int) × Int × Int × Int × Unit) × (Unit) → Option (Bool × ((Int × Int × Unit) × (Unit)))) (x : ((List Int) × Int × Int × Int × Unit) × (Unit)) : Option (Bool × ((Int × Int × Unit) × (Unit))) := match x with
  | ((a, k, t4, i, ()), (())) =>
    bif (ilt i (((List.length a) : Nat) : Int)) then
      Option.bind (ix i (List.length a)) fun j1 =>
      bif (!(ieq (List.getD a j1 (0 : Int)) k)) then
        some (true, ((k, ((-1), ())), ()))
      else
        rec' ((a, ((iadd .i64 k 1), (t4, ((iadd .i64 i 1), ())))), ())
    else
      some (false, ((k, (t4, ())), ()))

def g_w_heldInt64S (a : (List Int)) (k : Int) : Option (Int) :=
  Option.bind (iter L_w_heldInt64S_1 fuel ((a, (k, (0, (0, ())))), ())) fun y1 =>
  bif y1.1 then
    some y1.2.1.2.1
  else
    some y1.2.1.1


def g_w_FnExactUsedBones (aK : dSkel) (aPoints : (List dSkinPoint)) : Option (Bool) :=
  bif (ilt (t_w_szSkeleton aK 1048576) 0) then
    some true
  else
    Option.bind (g_w_szSkinPointS aPoints (t_w_szSkeleton aK 1048576)) fun y1 =>
    bif (ilt y1 0) then
      some true
    else
      Option.bind (g_w_toSkeleton aK) fun y2 =>
      Option.bind (g_w_toSkinPointS aPoints) fun y3 =>
      Option.bind (g_s_UsedBones y2 y3) fun y4 =>
      Option.bind (g_w_toSkeleton aK) fun y5 =>
      Option.bind (g_w_toSkinPointS aPoints) fun y6 =>
      Option.bind (g_i_UsedBones y5 y6) fun y7 =>
      Option.bind (g_w_eqInt64S y7.1 y4.1) fun y8 =>
      bif (!y8) then
        some false
      else
        bif (!(y7.2.1 == y4.2.1)) then
          some false
        else
          Option.bind (g_w_toSkeleton aK) fun y9 =>
          Option.bind (g_w_eqSkeleton y5 y9) fun y10 =>
          bif (!y10) then
            some false
          else
            Option.bind (g_w_toSkinPointS aPoints) fun y11 =>
            Option.bind (g_w_eqSkinPointS y6 y11) fun y12 =>
            bif (!y12) then
              some false
            else
              Option.bind (g_w_markSkeleton y5 1) fun y13 =>
              Option.bind (g_w_markSkinPointS y6 y13.1) fun y14 =>
              bif (ilt y14.1 0) then
                some false
              else
                Option.bind (g_w_eqInt64S y7.1 y4.1) fun y15 =>
                bif (!y15) then
                  some false
                else
                  bif (!(y7.2.1 == y4.2.1)) then
                    some false
                  else
                    Option.bind (g_w_markInt64S y7.1 1) fun y16 =>
                    Option.bind (g_w_heldInt64S y16.2.1 1) fun y17 =>
                    bif (ilt y17 0) then
                      some false
                    else
                      bif (!(ieq y17 y16.1)) then
                        some false
                      else
                        Option.bind (g_w_toSkeleton aK) fun y18 =>
                        Option.bind (g_w_toSkinPointS aPoints) fun y19 =>
                        Option.bind (g_i_UsedBones y18 y19) fun y20 =>
                        Option.bind (g_w_eqInt64S y20.1 y4.1) fun y21 =>
                        bif (!y21) then
                          some false
                        else
                          bif (!(y20.2.1 == y4.2.1)) then
                            some false
                          else
                            Option.bind (g_w_heldInt64S y16.2.1 1) fun y22 =>
                            bif (ilt y22 0) then
                              some false
                            else
                              bif (!(ieq y22 y16.1)) then
                                some false
                              else
                                some true

end
end Go.Fw
