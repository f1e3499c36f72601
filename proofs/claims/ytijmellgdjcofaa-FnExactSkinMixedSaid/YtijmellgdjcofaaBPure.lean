/- What the functions compute, as plain Lean functions. No condition. -/
import Derived.Test.YtijmellgdjcofaaAPure
set_option linter.unusedVariables false
namespace Go.Fw
noncomputable section
def g_w_szBoneS (a : (List dRootKey)) (left : Int) : Option (Int) :=
  bif (ilt (isub .i64 left (((List.length a) : Nat) : Int)) 0) then
    some (-1)
  else
    some (isub .i64 left (((List.length a) : Nat) : Int))

def t_w_szBoneS (a : (List dRootKey)) (left : Int) : Int :=
  bif (ilt (isub .i64 left (((List.length a) : Nat) : Int)) 0) then
    (-1)
  else
    (isub .i64 left (((List.length a) : Nat) : Int))

theorem q_w_szBoneS (a : (List dRootKey)) (left : Int) : g_w_szBoneS a left = some (t_w_szBoneS a left) := by
  unfold g_w_szBoneS t_w_szBoneS; simp only [bif_some_some]


def g_w_szSkeleton (a : dSkel) (left : Int) : Option (Int) :=
  bif (ilt (t_w_szBoneS a.1 left) 0) then
    some (-1)
  else
    some (t_w_szBoneS a.1 left)

def t_w_szSkeleton (a : dSkel) (left : Int) : Int :=
  bif (ilt (t_w_szBoneS a.1 left) 0) then
    (-1)
  else
    (t_w_szBoneS a.1 left)

theorem q_w_szSkeleton (a : dSkel) (left : Int) : g_w_szSkeleton a left = some (t_w_szSkeleton a left) := by
  unfold g_w_szSkeleton t_w_szSkeleton; simp only [bif_some_some]


def g_w_szSkinPoint (a : dSkinPoint) (left : Int) : Option (Int) :=
  let e1 := (t_w_szFloat32S a.2.2.1 (t_w_szInt64S a.2.1 left))
  bif (ilt (t_w_szInt64S a.2.1 left) 0) then
    some (-1)
  else
    bif (ilt e1 0) then
      some (-1)
    else
      some e1

def t_w_szSkinPoint (a : dSkinPoint) (left : Int) : Int :=
  let e1 := (t_w_szFloat32S a.2.2.1 (t_w_szInt64S a.2.1 left))
  bif (ilt (t_w_szInt64S a.2.1 left) 0) then
    (-1)
  else
    bif (ilt e1 0) then
      (-1)
    else
      e1

theorem q_w_szSkinPoint (a : dSkinPoint) (left : Int) : g_w_szSkinPoint a left = some (t_w_szSkinPoint a left) := by
  unfold g_w_szSkinPoint t_w_szSkinPoint; simp only [bif_some_some]


def L_w_szSkinPointS_1 (rec' : ((List dSkinPoint) × Int × Int × Int × Unit) × (Unit) → Option (Bool × ((Int × Int × Unit) × (Unit)))) (x : ((List dSkinPoint) × Int × Int × Int × Unit) × (Unit)) : Option (Bool × ((Int × Int × Unit) × (Unit))) := match x with
  | ((a, left, t4, i, ()), (())) =>
    bif (ilt i (((List.length a) : Nat) : Int)) then
      Option.bind (ix i (List.length a)) fun j1 =>
      bif (ilt (t_w_szSkinPoint (List.getD a j1 zSkinPoint) left) 0) then
        some (true, (((t_w_szSkinPoint (List.getD a j1 zSkinPoint) left), ((-1), ())), ()))
      else
        rec' ((a, ((t_w_szSkinPoint (List.getD a j1 zSkinPoint) left), (t4, ((iadd .i64 i 1), ())))), ())
    else
      some (false, ((left, (t4, ())), ()))

def g_w_szSkinPointS (a : (List dSkinPoint)) (left : Int) : Option (Int) :=
  bif (ilt (isub .i64 left (((List.length a) : Nat) : Int)) 0) then
    some (-1)
  else
    Option.bind (iter L_w_szSkinPointS_1 fuel ((a, ((isub .i64 left (((List.length a) : Nat) : Int)), (0, (0, ())))), ())) fun y1 =>
    bif y1.1 then
      some y1.2.1.2.1
    else
      some y1.2.1.1


def g_w_toBone (a : dRootKey) : Option (dRootKey) :=
  some (a.1, ((t_w_toVector a.2.1), ()))

def t_w_toBone (a : dRootKey) : dRootKey :=
  (a.1, ((t_w_toVector a.2.1), ()))

theorem q_w_toBone (a : dRootKey) : g_w_toBone a = some (t_w_toBone a) := rfl


def L_w_toBoneS_1 (rec' : ((List dRootKey) × Int × Unit) × ((List dRootKey) × Unit) → Option ((Unit) × ((List dRootKey) × Unit))) (x : ((List dRootKey) × Int × Unit) × ((List dRootKey) × Unit)) : Option ((Unit) × ((List dRootKey) × Unit)) := match x with
  | ((a, i, ()), (r0, ())) =>
    bif (ilt i (((List.length a) : Nat) : Int)) then
      Option.bind (ix i (List.length a)) fun j1 =>
      Option.bind (ix i (List.length r0)) fun j2 =>
      rec' ((a, ((iadd .i64 i 1), ())), ((List.set r0 j2 (t_w_toBone (List.getD a j1 zRootKey))), ()))
    else
      some ((), (r0, ()))

def g_w_toBoneS (a : (List dRootKey)) : Option ((List dRootKey)) :=
  bif (mkOk (((List.length a) : Nat) : Int) (((List.length a) : Nat) : Int)) then
    Option.bind (iter L_w_toBoneS_1 fuel ((a, (0, ())), ((List.replicate (List.length a) (0, ((0, (0, (0, ()))), ()))), ()))) fun y1 =>
    some y1.2.1
  else
    none


def g_w_toSkeleton (a : dSkel) : Option (dSkel) :=
  Option.bind (g_w_toBoneS a.1) fun y1 =>
  some (y1, ())


def g_w_toSkinPoint (a : dSkinPoint) : Option (dSkinPoint) :=
  Option.bind (g_w_toInt64S a.2.1) fun y1 =>
  Option.bind (g_w_toFloat32S a.2.2.1) fun y2 =>
  some ((t_w_toVector a.1), (y1, (y2, ())))


def L_w_toSkinPointS_1 (rec' : ((List dSkinPoint) × Int × Unit) × ((List dSkinPoint) × Unit) → Option ((Unit) × ((List dSkinPoint) × Unit))) (x : ((List dSkinPoint) × Int × Unit) × ((List dSkinPoint) × Unit)) : Option ((Unit) × ((List dSkinPoint) × Unit)) := match x with
  | ((a, i, ()), (r0, ())) =>
    bif (ilt i (((List.length a) : Nat) : Int)) then
      Option.bind (ix i (List.length a)) fun j1 =>
      Option.bind (g_w_toSkinPoint (List.getD a j1 zSkinPoint)) fun y2 =>
      Option.bind (ix i (List.length r0)) fun j3 =>
      rec' ((a, ((iadd .i64 i 1), ())), ((List.set r0 j3 y2), ()))
    else
      some ((), (r0, ()))

def g_w_toSkinPointS (a : (List dSkinPoint)) : Option ((List dSkinPoint)) :=
  bif (mkOk (((List.length a) : Nat) : Int) (((List.length a) : Nat) : Int)) then
    Option.bind (iter L_w_toSkinPointS_1 fuel ((a, (0, ())), ((List.replicate (List.length a) ((0, (0, (0, ()))), (([] : List Int), (([] : List Nat), ())))), ()))) fun y1 =>
    some y1.2.1
  else
    none


def L_s_l03Is_1 (rec' : (dSkel × Bool × Int × Int × Unit) × (Unit) → Option (Bool × ((Bool × Unit) × (Unit)))) (x : (dSkel × Bool × Int × Int × Unit) × (Unit)) : Option (Bool × ((Bool × Unit) × (Unit))) := match x with
  | ((k, t2, n, i, ()), (())) =>
    bif (ilt i n) then
      Option.bind (ix i (List.length k.1)) fun j1 =>
      bif (!(t_s_l00In (List.getD k.1 j1 zRootKey).1 0 (isub .i64 i 1))) then
        some (true, ((false, ()), ()))
      else
        rec' ((k, (t2, (n, ((iadd .i64 i 1), ())))), ())
    else
      some (false, ((t2, ()), ()))

def g_s_l03Is (k : dSkel) : Option (Bool) :=
  bif (!(t_s_l00In (((List.length k.1) : Nat) : Int) 1 12)) then
    some false
  else
    Option.bind (ix 0 (List.length k.1)) fun j1 =>
    bif (!(ieq (List.getD k.1 j1 zRootKey).1 (-1))) then
      some false
    else
      Option.bind (iter L_s_l03Is_1 fuel ((k, (false, ((((List.length k.1) : Nat) : Int), (1, ())))), ())) fun y2 =>
      bif y2.1 then
        some y2.2.1.1
      else
        some true


def g_s_l09Point (xx : dSkinPoint) : Option (Bool) :=
  bif (ile 1 (((List.length xx.2.1) : Nat) : Int)) then
    bif (ile (((List.length xx.2.1) : Nat) : Int) 4) then
      some (ieq (((List.length xx.2.2.1) : Nat) : Int) (((List.length xx.2.1) : Nat) : Int))
    else
      some false
  else
    some false

def t_s_l09Point (xx : dSkinPoint) : Bool :=
  bif (ile 1 (((List.length xx.2.1) : Nat) : Int)) then
    bif (ile (((List.length xx.2.1) : Nat) : Int) 4) then
      (ieq (((List.length xx.2.2.1) : Nat) : Int) (((List.length xx.2.1) : Nat) : Int))
    else
      false
  else
    false

theorem q_s_l09Point (xx : dSkinPoint) : g_s_l09Point xx = some (t_s_l09Point xx) := by
  unfold g_s_l09Point t_s_l09Point; simp only [bif_some_some]


def L_s_l00Rises_1 (rec' : ((List Int) × Int × Int × Bool × Int × Unit) × (Unit) → Option (Bool × ((Bool × Unit) × (Unit)))) (x : ((List Int) × Int × Int × Bool × Int × Unit) × (Unit)) : Option (Bool × ((Bool × Unit) × (Unit))) := match x with
  | ((list, low, high, t6, i, ()), (())) =>
    let e1 := ((list, (low, (high, (t6, ((iadd .i64 i 1), ()))))), ())
    bif (ilt i (((List.length list) : Nat) : Int)) then
      Option.bind (ix i (List.length list)) fun j2 =>
      bif (!(t_s_l00In (List.getD list j2 (0 : Int)) low high)) then
        some (true, ((false, ()), ()))
      else
        bif (ilt 0 i) then
          Option.bind (ix (isub .i64 i 1) (List.length list)) fun j3 =>
          Option.bind (ix i (List.length list)) fun j4 =>
          bif (ile (List.getD list j4 (0 : Int)) (List.getD list j3 (0 : Int))) then
            some (true, ((false, ()), ()))
          else
            rec' e1
        else
          rec' e1
    else
      some (false, ((t6, ()), ()))

def g_s_l00Rises (list : (List Int)) (low : Int) (high : Int) : Option (Bool) :=
  Option.bind (iter L_s_l00Rises_1 fuel ((list, (low, (high, (false, (0, ()))))), ())) fun y1 =>
  bif y1.1 then
    some y1.2.1.1
  else
    some true


def L_s_l09Skin_1 (rec' : (dSkel × (List dSkinPoint) × Bool × Int × Int × Unit) × (Unit) → Option (Bool × (((List dSkinPoint) × Bool × Unit) × (Unit)))) (x : (dSkel × (List dSkinPoint) × Bool × Int × Int × Unit) × (Unit)) : Option (Bool × (((List dSkinPoint) × Bool × Unit) × (Unit))) := match x with
  | ((k, points, t4, t7, t8, ()), (())) =>
    let e1 := (true, ((points, (false, ())), ()))
    bif (ilt t8 t7) then
      Option.bind (ix t8 (List.length points)) fun j2 =>
      bif (!(t_s_l09Point (List.getD points j2 zSkinPoint))) then
        some e1
      else
        Option.bind (ix t8 (List.length points)) fun j3 =>
        Option.bind (g_s_l00Rises (List.getD points j3 zSkinPoint).2.1 0 (isub .i64 (((List.length k.1) : Nat) : Int) 1)) fun y4 =>
        bif (!y4) then
          some e1
        else
          rec' ((k, (points, (t4, (t7, ((iadd .i64 t8 1), ()))))), ())
    else
      some (false, ((points, (t4, ())), ()))

def g_s_l09Skin (k : dSkel) (points : (List dSkinPoint)) : Option (Bool) :=
  Option.bind (iter L_s_l09Skin_1 fuel ((k, (points, (false, ((((List.length points) : Nat) : Int), (0, ()))))), ())) fun y1 =>
  bif y1.1 then
    some y1.2.1.2.1
  else
    some (ile (((List.length y1.2.1.1) : Nat) : Int) 24)


def L_i_ValidSkeleton_1 (rec' : (Bool × (List dRootKey) × Int × Int × Unit) × (Unit) → Option (Bool × ((Bool × Unit) × (Unit)))) (x : (Bool × (List dRootKey) × Int × Int × Unit) × (Unit)) : Option (Bool × ((Bool × Unit) × (Unit))) := match x with
  | ((t2, t25, t26, t27, ()), (())) =>
    bif (ilt t27 t26) then
      Option.bind (ix t27 (List.length t25)) fun j1 =>
      bif (ilt (List.getD t25 j1 zRootKey).1 0) then
        some (true, ((false, ()), ()))
      else
        bif (ilt t27 (List.getD t25 j1 zRootKey).1) then
          some (true, ((false, ()), ()))
        else
          rec' ((t2, (t25, (t26, ((iadd .i64 t27 1), ())))), ())
    else
      some (false, ((t2, ()), ()))

def g_i_ValidSkeleton (k : dSkel) : Option (Bool) :=
  bif (ilt (((List.length k.1) : Nat) : Int) 1) then
    some false
  else
    bif (ilt 12 (((List.length k.1) : Nat) : Int)) then
      some false
    else
      Option.bind (ix 0 (List.length k.1)) fun j1 =>
      bif (!(ieq (List.getD k.1 j1 zRootKey).1 (-1))) then
        some false
      else
        bif (decide ((1 : Int) ≤ (((List.length k.1) : Nat) : Int))) then
          Option.bind (iter L_i_ValidSkeleton_1 fuel ((false, ((List.drop 1 (List.take (List.length k.1) k.1)), ((((List.length (List.drop 1 (List.take (List.length k.1) k.1))) : Nat) : Int), (0, ())))), ())) fun y2 =>
          bif y2.1 then
            some y2.2.1.1
          else
            some true
        else
          none


def g_i_SkinPoint_isHeld (p : dSkinPoint) : Option (Bool) :=
  bif (ile 1 (((List.length p.2.1) : Nat) : Int)) then
    bif (ile (((List.length p.2.1) : Nat) : Int) 4) then
      some (ieq (((List.length p.2.2.1) : Nat) : Int) (((List.length p.2.1) : Nat) : Int))
    else
      some false
  else
    some false

def t_i_SkinPoint_isHeld (p : dSkinPoint) : Bool :=
  bif (ile 1 (((List.length p.2.1) : Nat) : Int)) then
    bif (ile (((List.length p.2.1) : Nat) : Int) 4) then
      (ieq (((List.length p.2.2.1) : Nat) : Int) (((List.length p.2.1) : Nat) : Int))
    else
      false
  else
    false

theorem q_i_SkinPoint_isHeld (p : dSkinPoint) : g_i_SkinPoint_isHeld p = some (t_i_SkinPoint_isHeld p) := by
  unfold g_i_SkinPoint_isHeld t_i_SkinPoint_isHeld; simp only [bif_some_some]


def L_i_IsSkin_2 (rec' : (Bool × Int × (List dSkinPoint) × Int × Int × (List Int) × Int × Int × Unit) × ((dSkel × Unit) × Unit) → Option (Bool × ((Bool × (List dSkinPoint) × Int × Int × Unit) × ((dSkel × Unit) × Unit)))) (x : (Bool × Int × (List dSkinPoint) × Int × Int × (List Int) × Int × Int × Unit) × ((dSkel × Unit) × Unit)) : Option (Bool × ((Bool × (List dSkinPoint) × Int × Int × Unit) × ((dSkel × Unit) × Unit))) := match x with
  | ((t4, last, t18, t19, t20, t28, t29, t30, ()), ((b0, ()), ())) =>
    let e1 := (true, ((false, (t18, (t19, (t20, ())))), ((b0, ()), ())))
    bif (ilt t30 t29) then
      Option.bind (ix t30 (List.length t28)) fun j2 =>
      bif (ile (List.getD t28 j2 (0 : Int)) last) then
        some e1
      else
        bif (ile (((List.length b0.1) : Nat) : Int) (List.getD t28 j2 (0 : Int))) then
          some e1
        else
          rec' ((t4, ((List.getD t28 j2 (0 : Int)), (t18, (t19, (t20, (t28, (t29, ((iadd .i64 t30 1), ())))))))), ((b0, ()), ()))
    else
      some (false, ((t4, (t18, (t19, (t20, ())))), ((b0, ()), ())))

def L_i_IsSkin_1 (rec' : (Bool × (List dSkinPoint) × Int × Int × Unit) × ((dSkel × Unit) × Unit) → Option (Bool × ((Bool × Unit) × (Unit)))) (x : (Bool × (List dSkinPoint) × Int × Int × Unit) × ((dSkel × Unit) × Unit)) : Option (Bool × ((Bool × Unit) × (Unit))) := match x with
  | ((t4, t18, t19, t20, ()), ((b0, ()), ())) =>
    bif (ilt t20 t19) then
      Option.bind (ix t20 (List.length t18)) fun j1 =>
      bif (!(t_i_SkinPoint_isHeld (List.getD t18 j1 zSkinPoint))) then
        some (true, ((false, ()), ()))
      else
        Option.bind (iter L_i_IsSkin_2 fuel ((t4, ((-1), (t18, (t19, (t20, ((List.getD t18 j1 zSkinPoint).2.1, ((((List.length (List.getD t18 j1 zSkinPoint).2.1) : Nat) : Int), (0, ())))))))), ((b0, ()), ()))) fun y2 =>
        bif y2.1 then
          some (true, ((y2.2.1.1, ()), ()))
        else
          rec' ((y2.2.1.1, (y2.2.1.2.1, (y2.2.1.2.2.1, ((iadd .i64 y2.2.1.2.2.2.1 1), ())))), ((y2.2.2.1.1, ()), ()))
    else
      some (false, ((t4, ()), ()))

def g_i_IsSkin (k : dSkel) (points : (List dSkinPoint)) : Option (Bool) :=
  Option.bind (g_i_ValidSkeleton k) fun y1 =>
  bif (!y1) then
    some false
  else
    bif (ilt 24 (((List.length points) : Nat) : Int)) then
      some false
    else
      Option.bind (iter L_i_IsSkin_1 fuel ((false, (points, ((((List.length points) : Nat) : Int), (0, ())))), ((k, ()), ()))) fun y2 =>
      bif y2.1 then
        some y2.2.1.1
      else
        some true


def g_w_eqBone (a : dRootKey) (b : dRootKey) : Option (Bool) :=
  bif (!(ieq a.1 b.1)) then
    some false
  else
    bif (!(t_w_eqVector a.2.1 b.2.1)) then
      some false
    else
      some true

def t_w_eqBone (a : dRootKey) (b : dRootKey) : Bool :=
  bif (!(ieq a.1 b.1)) then
    false
  else
    bif (!(t_w_eqVector a.2.1 b.2.1)) then
      false
    else
      true

theorem q_w_eqBone (a : dRootKey) (b : dRootKey) : g_w_eqBone a b = some (t_w_eqBone a b) := by
  unfold g_w_eqBone t_w_eqBone; simp only [bif_some_some]


def L_w_eqBoneS_1 (rec' : ((List dRootKey) × (List dRootKey) × Bool × Int × Unit) × (Unit) → Option (Bool × ((Bool × Unit) × (Unit)))) (x : ((List dRootKey) × (List dRootKey) × Bool × Int × Unit) × (Unit)) : Option (Bool × ((Bool × Unit) × (Unit))) := match x with
  | ((a, b, t4, i, ()), (())) =>
    bif (ilt i (((List.length a) : Nat) : Int)) then
      Option.bind (ix i (List.length a)) fun j1 =>
      Option.bind (ix i (List.length b)) fun j2 =>
      bif (!(t_w_eqBone (List.getD a j1 zRootKey) (List.getD b j2 zRootKey))) then
        some (true, ((false, ()), ()))
      else
        rec' ((a, (b, (t4, ((iadd .i64 i 1), ())))), ())
    else
      some (false, ((t4, ()), ()))

def g_w_eqBoneS (a : (List dRootKey)) (b : (List dRootKey)) : Option (Bool) :=
  bif (!(ieq (((List.length a) : Nat) : Int) (((List.length b) : Nat) : Int))) then
    some false
  else
    Option.bind (iter L_w_eqBoneS_1 fuel ((a, (b, (false, (0, ())))), ())) fun y1 =>
    bif y1.1 then
      some y1.2.1.1
    else
      some true


def g_w_eqSkeleton (a : dSkel) (b : dSkel) : Option (Bool) :=
  Option.bind (g_w_eqBoneS a.1 b.1) fun y1 =>
  bif (!y1) then
    some false
  else
    some true


def g_w_eqSkinPoint (a : dSkinPoint) (b : dSkinPoint) : Option (Bool) :=
  bif (!(t_w_eqVector a.1 b.1)) then
    some false
  else
    Option.bind (g_w_eqInt64S a.2.1 b.2.1) fun y1 =>
    bif (!y1) then
      some false
    else
      Option.bind (g_w_eqFloat32S a.2.2.1 b.2.2.1) fun y2 =>
      bif (!y2) then
        some false
      else
        some true


def L_w_eqSkinPointS_1 (rec' : ((List dSkinPoint) × (List dSkinPoint) × Bool × Int × Unit) × (Unit) → Option (Bool × ((Bool × Unit) × (Unit)))) (x : ((List dSkinPoint) × (List dSkinPoint) × Bool × Int × Unit) × (Unit)) : Option (Bool × ((Bool × Unit) × (Unit))) := match x with
  | ((a, b, t4, i, ()), (())) =>
    bif (ilt i (((List.length a) : Nat) : Int)) then
      Option.bind (ix i (List.length a)) fun j1 =>
      Option.bind (ix i (List.length b)) fun j2 =>
      Option.bind (g_w_eqSkinPoint (List.getD a j1 zSkinPoint) (List.getD b j2 zSkinPoint)) fun y3 =>
      bif (!y3) then
        some (true, ((false, ()), ()))
      else
        rec' ((a, (b, (t4, ((iadd .i64 i 1), ())))), ())
    else
      some (false, ((t4, ()), ()))

def g_w_eqSkinPointS (a : (List dSkinPoint)) (b : (List dSkinPoint)) : Option (Bool) :=
  bif (!(ieq (((List.length a) : Nat) : Int) (((List.length b) : Nat) : Int))) then
    some false
  else
    Option.bind (iter L_w_eqSkinPointS_1 fuel ((a, (b, (false, (0, ())))), ())) fun y1 =>
    bif y1.1 then
      some y1.2.1.1
    else
      some true


def g_i_isLength (n : Nat) : Option (Bool) :=
  bif (t_i_IsFinite n) then
    some (!(feq .f32 n 0))
  else
    some false

def t_i_isLength (n : Nat) : Bool :=
  bif (t_i_IsFinite n) then
    (!(feq .f32 n 0))
  else
    false

theorem q_i_isLength (n : Nat) : g_i_isLength n = some (t_i_isLength n) := by
  unfold g_i_isLength t_i_isLength; simp only [bif_some_some]


def L_w_markSkinPointS_1 (rec' : (Int × Int × Unit) × ((List dSkinPoint) × Unit) → Option ((Int × Unit) × ((List dSkinPoint) × Unit))) (x : (Int × Int × Unit) × ((List dSkinPoint) × Unit)) : Option ((Int × Unit) × ((List dSkinPoint) × Unit)) := match x with
  | ((k, i, ()), (r0, ())) =>
    bif (ilt i (((List.length r0) : Nat) : Int)) then
      Option.bind (ix i (List.length r0)) fun j1 =>
      let e2 := (List.set r0 j1 (((fofInt .f32 k), (List.getD r0 j1 zSkinPoint).1.2), (List.getD r0 j1 zSkinPoint).2))
      Option.bind (ix i (List.length e2)) fun j3 =>
      let e4 := (List.getD e2 j3 zSkinPoint)
      let e5 := (List.set e2 j3 ((e4.1.1, ((fofInt .f32 (iadd .i64 k 1)), e4.1.2.2)), e4.2))
      Option.bind (ix i (List.length e5)) fun j6 =>
      let e7 := (List.getD e5 j6 zSkinPoint)
      let e8 := (List.set e5 j6 ((e7.1.1, (e7.1.2.1, ((fofInt .f32 (iadd .i64 (iadd .i64 k 1) 1)), ()))), e7.2))
      Option.bind (ix i (List.length e8)) fun j9 =>
      let e10 := (List.getD e8 j9 zSkinPoint)
      Option.bind (g_w_markInt64S e10.2.1 (iadd .i64 (iadd .i64 (iadd .i64 k 1) 1) 1)) fun y11 =>
      let e12 := (List.set e8 j9 (e10.1, (y11.2.1, e10.2.2)))
      Option.bind (ix i (List.length e12)) fun j13 =>
      let e14 := (List.getD e12 j13 zSkinPoint)
      Option.bind (g_w_markFloat32S e14.2.2.1 y11.1) fun y15 =>
      rec' ((y15.1, ((iadd .i64 i 1), ())), ((List.set e12 j13 (e14.1, (e14.2.1, (y15.2.1, ())))), ()))
    else
      some ((k, ()), (r0, ()))

def g_w_markSkinPointS (a : (List dSkinPoint)) (k : Int) : Option (Int × ((List dSkinPoint) × Int × Unit)) :=
  Option.bind (iter L_w_markSkinPointS_1 fuel ((k, (0, ())), (a, ()))) fun y1 =>
  some (y1.1.1, (y1.2.1, (k, ())))


def g_s_l03Pose (k : dSkel) (p : dPose) : Option (Bool) :=
  Option.bind (g_s_l03Is k) fun y1 =>
  bif y1 then
    some (ieq (((List.length p.2.1) : Nat) : Int) (((List.length k.1) : Nat) : Int))
  else
    some false


def g_s_l02Mul (a : dTurn) (b : dTurn) : Option (dTurn) :=
  some ((fsub .f32 (fsub .f32 (fsub .f32 (fmul .f32 a.1 b.1) (fmul .f32 a.2.1 b.2.1)) (fmul .f32 a.2.2.1 b.2.2.1)) (fmul .f32 a.2.2.2.1 b.2.2.2.1)), ((fsub .f32 (fadd .f32 (fadd .f32 (fmul .f32 a.1 b.2.1) (fmul .f32 a.2.1 b.1)) (fmul .f32 a.2.2.1 b.2.2.2.1)) (fmul .f32 a.2.2.2.1 b.2.2.1)), ((fadd .f32 (fadd .f32 (fsub .f32 (fmul .f32 a.1 b.2.2.1) (fmul .f32 a.2.1 b.2.2.2.1)) (fmul .f32 a.2.2.1 b.1)) (fmul .f32 a.2.2.2.1 b.2.1)), ((fadd .f32 (fsub .f32 (fadd .f32 (fmul .f32 a.1 b.2.2.2.1) (fmul .f32 a.2.1 b.2.2.1)) (fmul .f32 a.2.2.1 b.2.1)) (fmul .f32 a.2.2.2.1 b.1)), ()))))

def t_s_l02Mul (a : dTurn) (b : dTurn) : dTurn :=
  ((fsub .f32 (fsub .f32 (fsub .f32 (fmul .f32 a.1 b.1) (fmul .f32 a.2.1 b.2.1)) (fmul .f32 a.2.2.1 b.2.2.1)) (fmul .f32 a.2.2.2.1 b.2.2.2.1)), ((fsub .f32 (fadd .f32 (fadd .f32 (fmul .f32 a.1 b.2.1) (fmul .f32 a.2.1 b.1)) (fmul .f32 a.2.2.1 b.2.2.2.1)) (fmul .f32 a.2.2.2.1 b.2.2.1)), ((fadd .f32 (fadd .f32 (fsub .f32 (fmul .f32 a.1 b.2.2.1) (fmul .f32 a.2.1 b.2.2.2.1)) (fmul .f32 a.2.2.1 b.1)) (fmul .f32 a.2.2.2.1 b.2.1)), ((fadd .f32 (fsub .f32 (fadd .f32 (fmul .f32 a.1 b.2.2.2.1) (fmul .f32 a.2.1 b.2.2.1)) (fmul .f32 a.2.2.1 b.2.1)) (fmul .f32 a.2.2.2.1 b.1)), ()))))

theorem q_s_l02Mul (a : dTurn) (b : dTurn) : g_s_l02Mul a b = some (t_s_l02Mul a b) := rfl


def g_s_l02Axis (t : dTurn) : Option (dVec) :=
  some t.2

def t_s_l02Axis (t : dTurn) : dVec :=
  t.2

theorem q_s_l02Axis (t : dTurn) : g_s_l02Axis t = some (t_s_l02Axis t) := rfl


def g_s_l01Cross (a : dVec) (b : dVec) : Option (dVec) :=
  some ((fsub .f32 (fmul .f32 a.2.1 b.2.2.1) (fmul .f32 a.2.2.1 b.2.1)), ((fsub .f32 (fmul .f32 a.2.2.1 b.1) (fmul .f32 a.1 b.2.2.1)), ((fsub .f32 (fmul .f32 a.1 b.2.1) (fmul .f32 a.2.1 b.1)), ())))

def t_s_l01Cross (a : dVec) (b : dVec) : dVec :=
  ((fsub .f32 (fmul .f32 a.2.1 b.2.2.1) (fmul .f32 a.2.2.1 b.2.1)), ((fsub .f32 (fmul .f32 a.2.2.1 b.1) (fmul .f32 a.1 b.2.2.1)), ((fsub .f32 (fmul .f32 a.1 b.2.1) (fmul .f32 a.2.1 b.1)), ())))

theorem q_s_l01Cross (a : dVec) (b : dVec) : g_s_l01Cross a b = some (t_s_l01Cross a b) := rfl


def g_s_l02Rotate (t : dTurn) (v : dVec) : Option (dVec) :=
  some (t_s_l01Add (t_s_l01Add v (t_s_l01Scale (t_s_l01Scale (t_s_l01Cross (t_s_l02Axis t) v) 1073741824) t.1)) (t_s_l01Cross (t_s_l02Axis t) (t_s_l01Scale (t_s_l01Cross (t_s_l02Axis t) v) 1073741824)))

def t_s_l02Rotate (t : dTurn) (v : dVec) : dVec :=
  (t_s_l01Add (t_s_l01Add v (t_s_l01Scale (t_s_l01Scale (t_s_l01Cross (t_s_l02Axis t) v) 1073741824) t.1)) (t_s_l01Cross (t_s_l02Axis t) (t_s_l01Scale (t_s_l01Cross (t_s_l02Axis t) v) 1073741824)))

theorem q_s_l02Rotate (t : dTurn) (v : dVec) : g_s_l02Rotate t v = some (t_s_l02Rotate t v) := rfl


def L_s_l03World_1 (rec' : (dSkel × dPose × Int × Unit) × ((List dTurn) × (List dVec) × Unit) → Option ((Unit) × ((List dTurn) × (List dVec) × Unit))) (x : (dSkel × dPose × Int × Unit) × ((List dTurn) × (List dVec) × Unit)) : Option ((Unit) × ((List dTurn) × (List dVec) × Unit)) := match x with
  | ((k, p, i, ()), (r0, r1, ())) =>
    bif (ilt i (((List.length k.1) : Nat) : Int)) then
      Option.bind (ix i (List.length k.1)) fun j1 =>
      Option.bind (ix (List.getD k.1 j1 zRootKey).1 (List.length r0)) fun j2 =>
      Option.bind (ix i (List.length p.2.1)) fun j3 =>
      let e4 := (r0 ++ [(t_s_l02Mul (List.getD r0 j2 zTurn) (List.getD p.2.1 j3 zTurn))])
      bif (Nat.ble ((List.length r0) + 1) 4294967296) then
        Option.bind (ix (List.getD k.1 j1 zRootKey).1 (List.length r1)) fun j5 =>
        Option.bind (ix (List.getD k.1 j1 zRootKey).1 (List.length e4)) fun j6 =>
        bif (Nat.ble ((List.length r1) + 1) 4294967296) then
          rec' ((k, (p, ((iadd .i64 i 1), ()))), (e4, ((r1 ++ [(t_s_l01Add (List.getD r1 j5 zVec) (t_s_l02Rotate (List.getD e4 j6 zTurn) (List.getD k.1 j1 zRootKey).2.1))]), ())))
        else
          none
      else
        none
    else
      some ((), (r0, (r1, ())))

def g_s_l03World (k : dSkel) (p : dPose) : Option (((List dTurn) × ((List dVec) × Unit))) :=
  Option.bind (ix 0 (List.length p.2.1)) fun j1 =>
  Option.bind (iter L_s_l03World_1 fuel ((k, (p, (1, ()))), ([(List.getD p.2.1 j1 zTurn)], ([p.1], ())))) fun y2 =>
  some (y2.2.1, (y2.2.2.1, ()))


def g_s_l02Inverse (t : dTurn) : Option (dTurn) :=
  some (t.1, ((fneg .f32 t.2.1), ((fneg .f32 t.2.2.1), ((fneg .f32 t.2.2.2.1), ()))))

def t_s_l02Inverse (t : dTurn) : dTurn :=
  (t.1, ((fneg .f32 t.2.1), ((fneg .f32 t.2.2.1), ((fneg .f32 t.2.2.2.1), ()))))

theorem q_s_l02Inverse (t : dTurn) : g_s_l02Inverse t = some (t_s_l02Inverse t) := rfl


def L_s_l09Moves_1 (rec' : (Int × Int × Unit) × ((List dTurn) × (List dVec) × (List dTurn) × (List dVec) × (List dTurn) × (List dVec) × Unit) → Option ((Unit) × ((List dTurn) × (List dVec) × Unit))) (x : (Int × Int × Unit) × ((List dTurn) × (List dVec) × (List dTurn) × (List dVec) × (List dTurn) × (List dVec) × Unit)) : Option ((Unit) × ((List dTurn) × (List dVec) × Unit)) := match x with
  | ((t31, t32, ()), (r0, r1, r2, r3, r4, r5, ())) =>
    bif (ilt t32 t31) then
      Option.bind (ix t32 (List.length r2)) fun j1 =>
      Option.bind (ix t32 (List.length r0)) fun j2 =>
      bif (Nat.ble ((List.length r4) + 1) 4294967296) then
        Option.bind (ix t32 (List.length r3)) fun j3 =>
        Option.bind (ix t32 (List.length r1)) fun j4 =>
        bif (Nat.ble ((List.length r5) + 1) 4294967296) then
          rec' ((t31, ((iadd .i64 t32 1), ())), (r0, (r1, (r2, (r3, ((r4 ++ [(t_s_l02Mul (List.getD r2 j1 zTurn) (t_s_l02Inverse (List.getD r0 j2 zTurn)))]), ((r5 ++ [(t_s_l01Less (List.getD r3 j3 zVec) (t_s_l02Rotate (t_s_l02Mul (List.getD r2 j1 zTurn) (t_s_l02Inverse (List.getD r0 j2 zTurn))) (List.getD r1 j4 zVec)))]), ())))))))
        else
          none
      else
        none
    else
      some ((), (r4, (r5, ())))

def g_s_l09Moves (k : dSkel) (rest : dPose) (p : dPose) : Option (((List dTurn) × ((List dVec) × Unit))) :=
  Option.bind (g_s_l03World k rest) fun y1 =>
  Option.bind (g_s_l03World k p) fun y2 =>
  Option.bind (iter L_s_l09Moves_1 fuel (((((List.length y1.1) : Nat) : Int), (0, ())), (y1.1, (y1.2.1, (y2.1, (y2.2.1, ([], ([], ())))))))) fun y3 =>
  some (y3.2.1, (y3.2.2.1, ()))


def g_i_IsPose (k : dSkel) (p : dPose) : Option (Bool) :=
  Option.bind (g_i_ValidSkeleton k) fun y1 =>
  bif y1 then
    some (ieq (((List.length p.2.1) : Nat) : Int) (((List.length k.1) : Nat) : Int))
  else
    some false


def g_i_MulTurns (a : dTurn) (b : dTurn) : Option (dTurn) :=
  some ((fsub .f32 (fsub .f32 (fsub .f32 (fmul .f32 a.1 b.1) (fmul .f32 a.2.1 b.2.1)) (fmul .f32 a.2.2.1 b.2.2.1)) (fmul .f32 a.2.2.2.1 b.2.2.2.1)), ((fsub .f32 (fadd .f32 (fadd .f32 (fmul .f32 a.1 b.2.1) (fmul .f32 a.2.1 b.1)) (fmul .f32 a.2.2.1 b.2.2.2.1)) (fmul .f32 a.2.2.2.1 b.2.2.1)), ((fadd .f32 (fadd .f32 (fsub .f32 (fmul .f32 a.1 b.2.2.1) (fmul .f32 a.2.1 b.2.2.2.1)) (fmul .f32 a.2.2.1 b.1)) (fmul .f32 a.2.2.2.1 b.2.1)), ((fadd .f32 (fsub .f32 (fadd .f32 (fmul .f32 a.1 b.2.2.2.1) (fmul .f32 a.2.1 b.2.2.1)) (fmul .f32 a.2.2.1 b.2.1)) (fmul .f32 a.2.2.2.1 b.1)), ()))))

def t_i_MulTurns (a : dTurn) (b : dTurn) : dTurn :=
  ((fsub .f32 (fsub .f32 (fsub .f32 (fmul .f32 a.1 b.1) (fmul .f32 a.2.1 b.2.1)) (fmul .f32 a.2.2.1 b.2.2.1)) (fmul .f32 a.2.2.2.1 b.2.2.2.1)), ((fsub .f32 (fadd .f32 (fadd .f32 (fmul .f32 a.1 b.2.1) (fmul .f32 a.2.1 b.1)) (fmul .f32 a.2.2.1 b.2.2.2.1)) (fmul .f32 a.2.2.2.1 b.2.2.1)), ((fadd .f32 (fadd .f32 (fsub .f32 (fmul .f32 a.1 b.2.2.1) (fmul .f32 a.2.1 b.2.2.2.1)) (fmul .f32 a.2.2.1 b.1)) (fmul .f32 a.2.2.2.1 b.2.1)), ((fadd .f32 (fsub .f32 (fadd .f32 (fmul .f32 a.1 b.2.2.2.1) (fmul .f32 a.2.1 b.2.2.1)) (fmul .f32 a.2.2.1 b.2.1)) (fmul .f32 a.2.2.2.1 b.1)), ()))))

theorem q_i_MulTurns (a : dTurn) (b : dTurn) : g_i_MulTurns a b = some (t_i_MulTurns a b) := rfl


def g_i_Turn_vector (t : dTurn) : Option (dVec) :=
  some t.2

def t_i_Turn_vector (t : dTurn) : dVec :=
  t.2

theorem q_i_Turn_vector (t : dTurn) : g_i_Turn_vector t = some (t_i_Turn_vector t) := rfl


def g_i_CrossOf (a : dVec) (b : dVec) : Option (dVec) :=
  some ((fsub .f32 (fmul .f32 a.2.1 b.2.2.1) (fmul .f32 a.2.2.1 b.2.1)), ((fsub .f32 (fmul .f32 a.2.2.1 b.1) (fmul .f32 a.1 b.2.2.1)), ((fsub .f32 (fmul .f32 a.1 b.2.1) (fmul .f32 a.2.1 b.1)), ())))

def t_i_CrossOf (a : dVec) (b : dVec) : dVec :=
  ((fsub .f32 (fmul .f32 a.2.1 b.2.2.1) (fmul .f32 a.2.2.1 b.2.1)), ((fsub .f32 (fmul .f32 a.2.2.1 b.1) (fmul .f32 a.1 b.2.2.1)), ((fsub .f32 (fmul .f32 a.1 b.2.1) (fmul .f32 a.2.1 b.1)), ())))

theorem q_i_CrossOf (a : dVec) (b : dVec) : g_i_CrossOf a b = some (t_i_CrossOf a b) := rfl


def g_i_RotateBy (t : dTurn) (v : dVec) : Option (dVec) :=
  some (t_i_AddVectors (t_i_AddVectors v (t_i_ScaleVector (t_i_ScaleVector (t_i_CrossOf (t_i_Turn_vector t) v) 1073741824) t.1)) (t_i_CrossOf (t_i_Turn_vector t) (t_i_ScaleVector (t_i_CrossOf (t_i_Turn_vector t) v) 1073741824)))

def t_i_RotateBy (t : dTurn) (v : dVec) : dVec :=
  (t_i_AddVectors (t_i_AddVectors v (t_i_ScaleVector (t_i_ScaleVector (t_i_CrossOf (t_i_Turn_vector t) v) 1073741824) t.1)) (t_i_CrossOf (t_i_Turn_vector t) (t_i_ScaleVector (t_i_CrossOf (t_i_Turn_vector t) v) 1073741824)))

theorem q_i_RotateBy (t : dTurn) (v : dVec) : g_i_RotateBy t v = some (t_i_RotateBy t v) := rfl


def L_i_Skeleton_world_1 (rec' : ((List dRootKey) × Int × Int × Unit) × ((dPose × Unit) × (List dTurn) × (List dVec) × Unit) → Option ((Unit) × ((List dTurn) × (List dVec) × Unit))) (x : ((List dRootKey) × Int × Int × Unit) × ((dPose × Unit) × (List dTurn) × (List dVec) × Unit)) : Option ((Unit) × ((List dTurn) × (List dVec) × Unit)) := match x with
  | ((t35, t36, t37, ()), ((b0, ()), r1, r2, ())) =>
    let e1 := (t35, (t36, ((iadd .i64 t37 1), ())))
    bif (ilt t37 t36) then
      Option.bind (ix t37 (List.length t35)) fun j2 =>
      bif (ilt 0 t37) then
        Option.bind (ix (List.getD t35 j2 zRootKey).1 (List.length r1)) fun j3 =>
        Option.bind (ix t37 (List.length b0.2.1)) fun j4 =>
        Option.bind (ix t37 (List.length r1)) fun j5 =>
        let e6 := (List.set r1 j5 (t_i_MulTurns (List.getD r1 j3 zTurn) (List.getD b0.2.1 j4 zTurn)))
        Option.bind (ix (List.getD t35 j2 zRootKey).1 (List.length r2)) fun j7 =>
        Option.bind (ix (List.getD t35 j2 zRootKey).1 (List.length e6)) fun j8 =>
        Option.bind (ix t37 (List.length r2)) fun j9 =>
        rec' (e1, ((b0, ()), (e6, ((List.set r2 j9 (t_i_AddVectors (List.getD r2 j7 zVec) (t_i_RotateBy (List.getD e6 j8 zTurn) (List.getD t35 j2 zRootKey).2.1))), ()))))
      else
        rec' (e1, ((b0, ()), (r1, (r2, ()))))
    else
      some ((), (r1, (r2, ())))

def g_i_Skeleton_world (k : dSkel) (p : dPose) : Option (((List dTurn) × ((List dVec) × Unit))) :=
  let e1 := (mkOk (((List.length k.1) : Nat) : Int) (((List.length k.1) : Nat) : Int))
  let e2 := (List.replicate (List.length k.1) (0, (0, (0, ()))))
  let e3 := (List.replicate (List.length k.1) (0, (0, (0, (0, ())))))
  bif e1 then
    bif e1 then
      Option.bind (ix 0 (List.length p.2.1)) fun j4 =>
      Option.bind (ix 0 (List.length e3)) fun j5 =>
      Option.bind (ix 0 (List.length e2)) fun j6 =>
      Option.bind (iter L_i_Skeleton_world_1 fuel ((k.1, ((((List.length k.1) : Nat) : Int), (0, ()))), ((p, ()), ((List.set e3 j5 (List.getD p.2.1 j4 zTurn)), ((List.set e2 j6 p.1), ()))))) fun y7 =>
      some (y7.2.1, (y7.2.2.1, ()))
    else
      none
  else
    none


def g_i_InverseOf (t : dTurn) : Option (dTurn) :=
  some (t.1, ((fneg .f32 t.2.1), ((fneg .f32 t.2.2.1), ((fneg .f32 t.2.2.2.1), ()))))

def t_i_InverseOf (t : dTurn) : dTurn :=
  (t.1, ((fneg .f32 t.2.1), ((fneg .f32 t.2.2.1), ((fneg .f32 t.2.2.2.1), ()))))

theorem q_i_InverseOf (t : dTurn) : g_i_InverseOf t = some (t_i_InverseOf t) := rfl


def L_i_Skeleton_moves_1 (rec' : (Int × Int × Unit) × ((List dTurn) × (List dVec) × (List dTurn) × (List dVec) × Unit) → Option ((Unit) × ((List dTurn) × (List dVec) × Unit))) (x : (Int × Int × Unit) × ((List dTurn) × (List dVec) × (List dTurn) × (List dVec) × Unit)) : Option ((Unit) × ((List dTurn) × (List dVec) × Unit)) := match x with
  | ((t26, t27, ()), (r2, r3, r4, r5, ())) =>
    bif (ilt t27 t26) then
      Option.bind (ix t27 (List.length r4)) fun j1 =>
      Option.bind (ix t27 (List.length r2)) fun j2 =>
      Option.bind (ix t27 (List.length r4)) fun j3 =>
      let e4 := (List.set r4 j3 (t_i_MulTurns (List.getD r4 j1 zTurn) (t_i_InverseOf (List.getD r2 j2 zTurn))))
      Option.bind (ix t27 (List.length r5)) fun j5 =>
      Option.bind (ix t27 (List.length e4)) fun j6 =>
      Option.bind (ix t27 (List.length r3)) fun j7 =>
      Option.bind (ix t27 (List.length r5)) fun j8 =>
      rec' ((t26, ((iadd .i64 t27 1), ())), (r2, (r3, (e4, ((List.set r5 j8 (t_i_LessVectors (List.getD r5 j5 zVec) (t_i_RotateBy (List.getD e4 j6 zTurn) (List.getD r3 j7 zVec)))), ())))))
    else
      some ((), (r4, (r5, ())))

def g_i_Skeleton_moves (k : dSkel) (rest : dPose) (p : dPose) : Option (((List dTurn) × ((List dVec) × Unit))) :=
  Option.bind (g_i_Skeleton_world k rest) fun y1 =>
  Option.bind (g_i_Skeleton_world k p) fun y2 =>
  Option.bind (iter L_i_Skeleton_moves_1 fuel (((((List.length y2.1) : Nat) : Int), (0, ())), (y1.1, (y1.2.1, (y2.1, (y2.2.1, ())))))) fun y3 =>
  some (y3.2.1, (y3.2.2.1, ()))


def L_w_markBoneS_1 (rec' : (Int × Int × Unit) × ((List dRootKey) × Unit) → Option ((Int × Unit) × ((List dRootKey) × Unit))) (x : (Int × Int × Unit) × ((List dRootKey) × Unit)) : Option ((Int × Unit) × ((List dRootKey) × Unit)) := match x with
  | ((k, i, ()), (r0, ())) =>
    bif (ilt i (((List.length r0) : Nat) : Int)) then
      Option.bind (ix i (List.length r0)) fun j1 =>
      let e2 := (List.set r0 j1 (k, (List.getD r0 j1 zRootKey).2))
      Option.bind (ix i (List.length e2)) fun j3 =>
      let e4 := (List.getD e2 j3 zRootKey)
      let e5 := (List.set e2 j3 (e4.1, (((fofInt .f32 (iadd .i64 k 1)), e4.2.1.2), ())))
      Option.bind (ix i (List.length e5)) fun j6 =>
      let e7 := (List.getD e5 j6 zRootKey)
      let e8 := (List.set e5 j6 (e7.1, ((e7.2.1.1, ((fofInt .f32 (iadd .i64 (iadd .i64 k 1) 1)), e7.2.1.2.2)), ())))
      Option.bind (ix i (List.length e8)) fun j9 =>
      let e10 := (List.getD e8 j9 zRootKey)
      rec' (((iadd .i64 (iadd .i64 (iadd .i64 (iadd .i64 k 1) 1) 1) 1), ((iadd .i64 i 1), ())), ((List.set e8 j9 (e10.1, ((e10.2.1.1, (e10.2.1.2.1, ((fofInt .f32 (iadd .i64 (iadd .i64 (iadd .i64 k 1) 1) 1)), ()))), ()))), ()))
    else
      some ((k, ()), (r0, ()))

def g_w_markBoneS (a : (List dRootKey)) (k : Int) : Option (Int × ((List dRootKey) × Int × Unit)) :=
  Option.bind (iter L_w_markBoneS_1 fuel ((k, (0, ())), (a, ()))) fun y1 =>
  some (y1.1.1, (y1.2.1, (k, ())))


def g_w_markSkeleton (a : dSkel) (k : Int) : Option (Int × (dSkel × Int × Unit)) :=
  Option.bind (g_w_markBoneS a.1 k) fun y1 =>
  some (y1.1, ((y1.2.1, ()), (k, ())))


def g_i_canSkin (k : dSkel) (rest : dPose) (p : dPose) (points : (List dSkinPoint)) : Option (Bool) :=
  Option.bind (g_i_IsPose k rest) fun y1 =>
  bif y1 then
    Option.bind (g_i_IsPose k p) fun y2 =>
    bif y2 then
      Option.bind (g_i_IsSkin k points) fun y3 =>
      some y3
    else
      some false
  else
    some false


def g_s_l02Inner (a : dTurn) (b : dTurn) : Option (Nat) :=
  some (fadd .f32 (fadd .f32 (fadd .f32 (fmul .f32 a.1 b.1) (fmul .f32 a.2.1 b.2.1)) (fmul .f32 a.2.2.1 b.2.2.1)) (fmul .f32 a.2.2.2.1 b.2.2.2.1))

def t_s_l02Inner (a : dTurn) (b : dTurn) : Nat :=
  (fadd .f32 (fadd .f32 (fadd .f32 (fmul .f32 a.1 b.1) (fmul .f32 a.2.1 b.2.1)) (fmul .f32 a.2.2.1 b.2.2.1)) (fmul .f32 a.2.2.2.1 b.2.2.2.1))

theorem q_s_l02Inner (a : dTurn) (b : dTurn) : g_s_l02Inner a b = some (t_s_l02Inner a b) := rfl


def g_s_l02Opposite (t : dTurn) (inner : Nat) : Option (dTurn) :=
  bif (flt .f32 inner 0) then
    some ((fneg .f32 t.1), ((fneg .f32 t.2.1), ((fneg .f32 t.2.2.1), ((fneg .f32 t.2.2.2.1), ()))))
  else
    some t

def t_s_l02Opposite (t : dTurn) (inner : Nat) : dTurn :=
  bif (flt .f32 inner 0) then
    ((fneg .f32 t.1), ((fneg .f32 t.2.1), ((fneg .f32 t.2.2.1), ((fneg .f32 t.2.2.2.1), ()))))
  else
    t

theorem q_s_l02Opposite (t : dTurn) (inner : Nat) : g_s_l02Opposite t inner = some (t_s_l02Opposite t inner) := by
  unfold g_s_l02Opposite t_s_l02Opposite; simp only [bif_some_some]


def g_s_l02No  : Option (dTurn) :=
  some (1065353216, (0, (0, (0, ()))))

def t_s_l02No  : dTurn :=
  (1065353216, (0, (0, (0, ()))))

theorem q_s_l02No  : g_s_l02No  = some (t_s_l02No ) := rfl


def g_s_l02Mend (t : dTurn) : Option (dTurn) :=
  Option.bind (g_s_l01Sqrt (t_s_l02Inner t t)) fun y1 =>
  bif (feq .f32 y1 0) then
    some t_s_l02No
  else
    bif (!(t_s_l01Finite y1)) then
      some t_s_l02No
    else
      some ((fdiv .f32 t.1 y1), ((fdiv .f32 t.2.1 y1), ((fdiv .f32 t.2.2.1 y1), ((fdiv .f32 t.2.2.2.1 y1), ()))))


def L_s_l02Mix_1 (rec' : ((List dTurn) × (List Nat) × Int × Unit) × ((dTurn × Unit) × (dTurn × Unit) × Unit) → Option ((Unit) × ((dTurn × Unit) × (dTurn × Unit) × Unit))) (x : ((List dTurn) × (List Nat) × Int × Unit) × ((dTurn × Unit) × (dTurn × Unit) × Unit)) : Option ((Unit) × ((dTurn × Unit) × (dTurn × Unit) × Unit)) := match x with
  | ((list, weights, i, ()), ((b0, ()), (b1, ()), ())) =>
    bif (ilt i (((List.length list) : Nat) : Int)) then
      Option.bind (ix i (List.length list)) fun j1 =>
      Option.bind (ix 0 (List.length list)) fun j2 =>
      Option.bind (ix i (List.length list)) fun j3 =>
      let e4 := (t_s_l02Opposite (List.getD list j1 zTurn) (t_s_l02Inner (List.getD list j2 zTurn) (List.getD list j3 zTurn)))
      Option.bind (ix i (List.length weights)) fun j5 =>
      Option.bind (ix i (List.length weights)) fun j6 =>
      Option.bind (ix i (List.length weights)) fun j7 =>
      Option.bind (ix i (List.length weights)) fun j8 =>
      rec' ((list, (weights, ((iadd .i64 i 1), ()))), ((b0, ()), ((((fadd .f32 b1.1 (fmul .f32 e4.1 (List.getD weights j5 (0 : Nat)))), ((fadd .f32 b1.2.1 (fmul .f32 e4.2.1 (List.getD weights j6 (0 : Nat)))), ((fadd .f32 b1.2.2.1 (fmul .f32 e4.2.2.1 (List.getD weights j7 (0 : Nat)))), ((fadd .f32 b1.2.2.2.1 (fmul .f32 e4.2.2.2.1 (List.getD weights j8 (0 : Nat)))), ())))), ()), ())))
    else
      some ((), ((b0, ()), ((b1, ()), ())))

def g_s_l02Mix (list : (List dTurn)) (weights : (List Nat)) : Option (dTurn) :=
  let e1 := ((0, (0, (0, (0, ())))), ())
  Option.bind (iter L_s_l02Mix_1 fuel ((list, (weights, (0, ()))), (e1, (e1, ())))) fun y2 =>
  Option.bind (g_s_l02Mend y2.2.2.1.1) fun y3 =>
  some y3


def L_s_SkinMixed_2 (rec' : ((List dSkinPoint) × Int × Int × Int × Int × Unit) × ((List dTurn) × (List dVec) × (List dVec) × (dSkinPoint × Unit) × (dVec × Unit) × (List dTurn) × Unit) → Option (((List dSkinPoint) × Int × Int × Unit) × ((List dTurn) × (List dVec) × (List dVec) × (dSkinPoint × Unit) × (dVec × Unit) × (List dTurn) × Unit))) (x : ((List dSkinPoint) × Int × Int × Int × Int × Unit) × ((List dTurn) × (List dVec) × (List dVec) × (dSkinPoint × Unit) × (dVec × Unit) × (List dTurn) × Unit)) : Option (((List dSkinPoint) × Int × Int × Unit) × ((List dTurn) × (List dVec) × (List dVec) × (dSkinPoint × Unit) × (dVec × Unit) × (List dTurn) × Unit)) := match x with
  | ((points, t36, t37, t48, t49, ()), (r3, r4, r5, (b6, ()), (b7, ()), r8, ())) =>
    bif (ilt t49 t48) then
      Option.bind (ix t49 (List.length b6.2.1)) fun j1 =>
      Option.bind (ix (List.getD b6.2.1 j1 (0 : Int)) (List.length r3)) fun j2 =>
      bif (Nat.ble ((List.length r8) + 1) 4294967296) then
        Option.bind (ix (List.getD b6.2.1 j1 (0 : Int)) (List.length r4)) fun j3 =>
        Option.bind (ix t49 (List.length b6.2.2.1)) fun j4 =>
        rec' ((points, (t36, (t37, (t48, ((iadd .i64 t49 1), ()))))), (r3, (r4, (r5, ((b6, ()), (((t_s_l01Add b7 (t_s_l01Scale (List.getD r4 j3 zVec) (List.getD b6.2.2.1 j4 (0 : Nat)))), ()), ((r8 ++ [(List.getD r3 j2 zTurn)]), ())))))))
      else
        none
    else
      some ((points, (t36, (t37, ()))), (r3, (r4, (r5, ((b6, ()), ((b7, ()), (r8, ())))))))

def L_s_SkinMixed_1 (rec' : ((List dSkinPoint) × Int × Int × Unit) × ((List dTurn) × (List dVec) × (List dVec) × Unit) → Option ((Unit) × ((List dVec) × Unit))) (x : ((List dSkinPoint) × Int × Int × Unit) × ((List dTurn) × (List dVec) × (List dVec) × Unit)) : Option ((Unit) × ((List dVec) × Unit)) := match x with
  | ((points, t36, t37, ()), (r3, r4, r5, ())) =>
    bif (ilt t37 t36) then
      Option.bind (ix t37 (List.length points)) fun j1 =>
      Option.bind (iter L_s_SkinMixed_2 fuel ((points, (t36, (t37, ((((List.length (List.getD points j1 zSkinPoint).2.1) : Nat) : Int), (0, ()))))), (r3, (r4, (r5, (((List.getD points j1 zSkinPoint), ()), (((0, (0, (0, ()))), ()), ([], ())))))))) fun y2 =>
      Option.bind (g_s_l02Mix y2.2.2.2.2.2.2.1 y2.2.2.2.2.1.1.2.2.1) fun y3 =>
      bif (Nat.ble ((List.length y2.2.2.2.1) + 1) 4294967296) then
        rec' ((y2.1.1, (y2.1.2.1, ((iadd .i64 y2.1.2.2.1 1), ()))), (y2.2.1, (y2.2.2.1, ((y2.2.2.2.1 ++ [(t_s_l01Add (t_s_l02Rotate y3 y2.2.2.2.2.1.1.1) y2.2.2.2.2.2.1.1)]), ()))))
      else
        none
    else
      some ((), (r5, ()))

def g_s_SkinMixed (k : dSkel) (rest : dPose) (p : dPose) (points : (List dSkinPoint)) : Option (((List dVec) × (Bool × Unit))) :=
  Option.bind (g_s_l03Pose k rest) fun y1 =>
  bif (!y1) then
    some (([] : List dVec), (false, ()))
  else
    Option.bind (g_s_l03Pose k p) fun y2 =>
    bif (!y2) then
      some (([] : List dVec), (false, ()))
    else
      Option.bind (g_s_l09Skin k points) fun y3 =>
      bif (!y3) then
        some (([] : List dVec), (false, ()))
      else
        Option.bind (g_s_l09Moves k rest p) fun y4 =>
        Option.bind (iter L_s_SkinMixed_1 fuel ((points, ((((List.length points) : Nat) : Int), (0, ()))), (y4.1, (y4.2.1, ([], ()))))) fun y5 =>
        some (y5.2.1, (true, ()))


def g_i_InnerOfTurns (a : dTurn) (b : dTurn) : Option (Nat) :=
  some (fadd .f32 (fadd .f32 (fadd .f32 (fmul .f32 a.1 b.1) (fmul .f32 a.2.1 b.2.1)) (fmul .f32 a.2.2.1 b.2.2.1)) (fmul .f32 a.2.2.2.1 b.2.2.2.1))

def t_i_InnerOfTurns (a : dTurn) (b : dTurn) : Nat :=
  (fadd .f32 (fadd .f32 (fadd .f32 (fmul .f32 a.1 b.1) (fmul .f32 a.2.1 b.2.1)) (fmul .f32 a.2.2.1 b.2.2.1)) (fmul .f32 a.2.2.2.1 b.2.2.2.1))

theorem q_i_InnerOfTurns (a : dTurn) (b : dTurn) : g_i_InnerOfTurns a b = some (t_i_InnerOfTurns a b) := rfl


def g_i_Turn_opposite (t : dTurn) : Option (dTurn) :=
  some ((fneg .f32 t.1), ((fneg .f32 t.2.1), ((fneg .f32 t.2.2.1), ((fneg .f32 t.2.2.2.1), ()))))

def t_i_Turn_opposite (t : dTurn) : dTurn :=
  ((fneg .f32 t.1), ((fneg .f32 t.2.1), ((fneg .f32 t.2.2.1), ((fneg .f32 t.2.2.2.1), ()))))

theorem q_i_Turn_opposite (t : dTurn) : g_i_Turn_opposite t = some (t_i_Turn_opposite t) := rfl


def g_i_LengthOfTurn (t : dTurn) : Option (Nat) :=
  Option.bind (g_i_RootNumber (t_i_InnerOfTurns t t)) fun y1 =>
  some y1


def g_i_NoTurn  : Option (dTurn) :=
  some (1065353216, (0, (0, (0, ()))))

def t_i_NoTurn  : dTurn :=
  (1065353216, (0, (0, (0, ()))))

theorem q_i_NoTurn  : g_i_NoTurn  = some (t_i_NoTurn ) := rfl


def g_i_MendTurn (t : dTurn) : Option (dTurn) :=
  Option.bind (g_i_LengthOfTurn t) fun y1 =>
  bif (!(t_i_isLength y1)) then
    some t_i_NoTurn
  else
    some ((fdiv .f32 t.1 y1), ((fdiv .f32 t.2.1 y1), ((fdiv .f32 t.2.2.1 y1), ((fdiv .f32 t.2.2.2.1 y1), ()))))


def L_i_mixTurns_1 (rec' : ((List dTurn) × (List Nat) × (List dTurn) × Int × Int × Unit) × ((dTurn × Unit) × (dTurn × Unit) × Unit) → Option ((Unit) × ((dTurn × Unit) × (dTurn × Unit) × Unit))) (x : ((List dTurn) × (List Nat) × (List dTurn) × Int × Int × Unit) × ((dTurn × Unit) × (dTurn × Unit) × Unit)) : Option ((Unit) × ((dTurn × Unit) × (dTurn × Unit) × Unit)) := match x with
  | ((list, weights, t9, t10, t11, ()), ((b0, ()), (b1, ()), ())) =>
    let e1 := (list, (weights, (t9, (t10, ((iadd .i64 t11 1), ())))))
    bif (ilt t11 t10) then
      Option.bind (ix t11 (List.length t9)) fun j2 =>
      Option.bind (ix 0 (List.length list)) fun j3 =>
      bif (flt .f32 (t_i_InnerOfTurns (List.getD list j3 zTurn) (List.getD t9 j2 zTurn)) 0) then
        Option.bind (ix t11 (List.length weights)) fun j4 =>
        rec' (e1, ((b0, ()), ((((fadd .f32 b1.1 (fmul .f32 (t_i_Turn_opposite (List.getD t9 j2 zTurn)).1 (List.getD weights j4 (0 : Nat)))), ((fadd .f32 b1.2.1 (fmul .f32 (t_i_Turn_opposite (List.getD t9 j2 zTurn)).2.1 (List.getD weights j4 (0 : Nat)))), ((fadd .f32 b1.2.2.1 (fmul .f32 (t_i_Turn_opposite (List.getD t9 j2 zTurn)).2.2.1 (List.getD weights j4 (0 : Nat)))), ((fadd .f32 b1.2.2.2.1 (fmul .f32 (t_i_Turn_opposite (List.getD t9 j2 zTurn)).2.2.2.1 (List.getD weights j4 (0 : Nat)))), ())))), ()), ())))
      else
        Option.bind (ix t11 (List.length weights)) fun j5 =>
        rec' (e1, ((b0, ()), ((((fadd .f32 b1.1 (fmul .f32 (List.getD t9 j2 zTurn).1 (List.getD weights j5 (0 : Nat)))), ((fadd .f32 b1.2.1 (fmul .f32 (List.getD t9 j2 zTurn).2.1 (List.getD weights j5 (0 : Nat)))), ((fadd .f32 b1.2.2.1 (fmul .f32 (List.getD t9 j2 zTurn).2.2.1 (List.getD weights j5 (0 : Nat)))), ((fadd .f32 b1.2.2.2.1 (fmul .f32 (List.getD t9 j2 zTurn).2.2.2.1 (List.getD weights j5 (0 : Nat)))), ())))), ()), ())))
    else
      some ((), ((b0, ()), ((b1, ()), ())))

def g_i_mixTurns (list : (List dTurn)) (weights : (List Nat)) : Option (dTurn) :=
  let e1 := ((0, (0, (0, (0, ())))), ())
  Option.bind (iter L_i_mixTurns_1 fuel ((list, (weights, (list, ((((List.length list) : Nat) : Int), (0, ()))))), (e1, (e1, ())))) fun y2 =>
  Option.bind (g_i_MendTurn y2.2.2.1.1) fun y3 =>
  some y3


def L_i_SkinMixed_2 (rec' : ((List dSkinPoint) × Int × Int × (List Int) × Int × Int × Unit) × ((List dTurn) × (List dVec) × (List dVec) × (dSkinPoint × Unit) × (dVec × Unit) × (List dTurn) × Unit) → Option (((List dSkinPoint) × Int × Int × Unit) × ((List dTurn) × (List dVec) × (List dVec) × (dSkinPoint × Unit) × (dVec × Unit) × (List dTurn) × Unit))) (x : ((List dSkinPoint) × Int × Int × (List Int) × Int × Int × Unit) × ((List dTurn) × (List dVec) × (List dVec) × (dSkinPoint × Unit) × (dVec × Unit) × (List dTurn) × Unit)) : Option (((List dSkinPoint) × Int × Int × Unit) × ((List dTurn) × (List dVec) × (List dVec) × (dSkinPoint × Unit) × (dVec × Unit) × (List dTurn) × Unit)) := match x with
  | ((t31, t32, t33, t42, t43, t44, ()), (r3, r4, r5, (b6, ()), (b7, ()), r8, ())) =>
    bif (ilt t44 t43) then
      Option.bind (ix t44 (List.length t42)) fun j1 =>
      Option.bind (ix (List.getD t42 j1 (0 : Int)) (List.length r3)) fun j2 =>
      Option.bind (ix t44 (List.length r8)) fun j3 =>
      Option.bind (ix (List.getD t42 j1 (0 : Int)) (List.length r4)) fun j4 =>
      Option.bind (ix t44 (List.length b6.2.2.1)) fun j5 =>
      rec' ((t31, (t32, (t33, (t42, (t43, ((iadd .i64 t44 1), ())))))), (r3, (r4, (r5, ((b6, ()), (((t_i_AddVectors b7 (t_i_ScaleVector (List.getD r4 j4 zVec) (List.getD b6.2.2.1 j5 (0 : Nat)))), ()), ((List.set r8 j3 (List.getD r3 j2 zTurn)), ())))))))
    else
      some ((t31, (t32, (t33, ()))), (r3, (r4, (r5, ((b6, ()), ((b7, ()), (r8, ())))))))

def L_i_SkinMixed_1 (rec' : ((List dSkinPoint) × Int × Int × Unit) × ((List dTurn) × (List dVec) × (List dVec) × Unit) → Option ((Unit) × ((List dVec) × Unit))) (x : ((List dSkinPoint) × Int × Int × Unit) × ((List dTurn) × (List dVec) × (List dVec) × Unit)) : Option ((Unit) × ((List dVec) × Unit)) := match x with
  | ((t31, t32, t33, ()), (r3, r4, r5, ())) =>
    bif (ilt t33 t32) then
      Option.bind (ix t33 (List.length t31)) fun j1 =>
      bif (mkOk (((List.length (List.getD t31 j1 zSkinPoint).2.1) : Nat) : Int) (((List.length (List.getD t31 j1 zSkinPoint).2.1) : Nat) : Int)) then
        Option.bind (iter L_i_SkinMixed_2 fuel ((t31, (t32, (t33, ((List.getD t31 j1 zSkinPoint).2.1, ((((List.length (List.getD t31 j1 zSkinPoint).2.1) : Nat) : Int), (0, ())))))), (r3, (r4, (r5, (((List.getD t31 j1 zSkinPoint), ()), (((0, (0, (0, ()))), ()), ((List.replicate (List.length (List.getD t31 j1 zSkinPoint).2.1) (0, (0, (0, (0, ()))))), ())))))))) fun y2 =>
        Option.bind (g_i_mixTurns y2.2.2.2.2.2.2.1 y2.2.2.2.2.1.1.2.2.1) fun y3 =>
        bif (Nat.ble ((List.length y2.2.2.2.1) + 1) 4294967296) then
          rec' ((y2.1.1, (y2.1.2.1, ((iadd .i64 y2.1.2.2.1 1), ()))), (y2.2.1, (y2.2.2.1, ((y2.2.2.2.1 ++ [(t_i_AddVectors (t_i_RotateBy y3 y2.2.2.2.2.1.1.1) y2.2.2.2.2.2.1.1)]), ()))))
        else
          none
      else
        none
    else
      some ((), (r5, ()))

def g_i_SkinMixed (k : dSkel) (rest : dPose) (p : dPose) (points : (List dSkinPoint)) : Option (((List dVec) × (Bool × Unit))) :=
  Option.bind (g_i_canSkin k rest p points) fun y1 =>
  bif (!y1) then
    some (([] : List dVec), (false, ()))
  else
    Option.bind (g_i_Skeleton_moves k rest p) fun y2 =>
    Option.bind (iter L_i_SkinMixed_1 fuel ((points, ((((List.length points) : Nat) : Int), (0, ()))), (y2.1, (y2.2.1, (([] : List dVec), ()))))) fun y3 =>
    some (y3.2.1, (true, ()))


def g_w_FnExactSkinMixed (aK : dSkel) (aRest : dPose) (aP : dPose) (aPoints : (List dSkinPoint)) : Option (Bool) :=
  bif (ilt (t_w_szSkeleton aK 1048576) 0) then
    some true
  else
    bif (ilt (t_w_szPose aRest (t_w_szSkeleton aK 1048576)) 0) then
      some true
    else
      bif (ilt (t_w_szPose aP (t_w_szPose aRest (t_w_szSkeleton aK 1048576))) 0) then
        some true
      else
        Option.bind (g_w_szSkinPointS aPoints (t_w_szPose aP (t_w_szPose aRest (t_w_szSkeleton aK 1048576)))) fun y1 =>
        bif (ilt y1 0) then
          some true
        else
          Option.bind (g_w_toSkeleton aK) fun y2 =>
          Option.bind (g_w_toPose aRest) fun y3 =>
          Option.bind (g_w_toPose aP) fun y4 =>
          Option.bind (g_w_toSkinPointS aPoints) fun y5 =>
          Option.bind (g_s_SkinMixed y2 y3 y4 y5) fun y6 =>
          Option.bind (g_w_toSkeleton aK) fun y7 =>
          Option.bind (g_w_toPose aRest) fun y8 =>
          Option.bind (g_w_toPose aP) fun y9 =>
          Option.bind (g_w_toSkinPointS aPoints) fun y10 =>
          Option.bind (g_i_SkinMixed y7 y8 y9 y10) fun y11 =>
          Option.bind (g_w_eqVectorS y11.1 y6.1) fun y12 =>
          bif (!y12) then
            some false
          else
            bif (!(y11.2.1 == y6.2.1)) then
              some false
            else
              Option.bind (g_w_toSkeleton aK) fun y13 =>
              Option.bind (g_w_eqSkeleton y7 y13) fun y14 =>
              bif (!y14) then
                some false
              else
                Option.bind (g_w_toPose aRest) fun y15 =>
                Option.bind (g_w_eqPose y8 y15) fun y16 =>
                bif (!y16) then
                  some false
                else
                  Option.bind (g_w_toPose aP) fun y17 =>
                  Option.bind (g_w_eqPose y9 y17) fun y18 =>
                  bif (!y18) then
                    some false
                  else
                    Option.bind (g_w_toSkinPointS aPoints) fun y19 =>
                    Option.bind (g_w_eqSkinPointS y10 y19) fun y20 =>
                    bif (!y20) then
                      some false
                    else
                      Option.bind (g_w_markSkeleton y7 1) fun y21 =>
                      Option.bind (g_w_markPose y8 y21.1) fun y22 =>
                      Option.bind (g_w_markPose y9 y22.1) fun y23 =>
                      Option.bind (g_w_markSkinPointS y10 y23.1) fun y24 =>
                      bif (ilt y24.1 0) then
                        some false
                      else
                        Option.bind (g_w_eqVectorS y11.1 y6.1) fun y25 =>
                        bif (!y25) then
                          some false
                        else
                          bif (!(y11.2.1 == y6.2.1)) then
                            some false
                          else
                            Option.bind (g_w_markVectorS y11.1 1) fun y26 =>
                            Option.bind (g_w_heldVectorS y26.2.1 1) fun y27 =>
                            bif (ilt y27 0) then
                              some false
                            else
                              bif (!(ieq y27 y26.1)) then
                                some false
                              else
                                Option.bind (g_w_toSkeleton aK) fun y28 =>
                                Option.bind (g_w_toPose aRest) fun y29 =>
                                Option.bind (g_w_toPose aP) fun y30 =>
                                Option.bind (g_w_toSkinPointS aPoints) fun y31 =>
                                Option.bind (g_i_SkinMixed y28 y29 y30 y31) fun y32 =>
                                Option.bind (g_w_eqVectorS y32.1 y6.1) fun y33 =>
                                bif (!y33) then
                                  some false
                                else
                                  bif (!(y32.2.1 == y6.2.1)) then
                                    some false
                                  else
                                    Option.bind (g_w_heldVectorS y26.2.1 1) fun y34 =>
                                    bif (ilt y34 0) then
                                      some false
                                    else
                                      bif (!(ieq y34 y26.1)) then
                                        some false
                                      else
                                        some true


end
end Go.Fw
