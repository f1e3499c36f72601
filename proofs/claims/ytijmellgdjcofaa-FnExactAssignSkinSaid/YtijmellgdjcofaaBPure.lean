/- What the functions compute, as plain Lean functions. No condition. -/
import Derived.Test.YtijmellgdjcofaaAPure
set_option linter.unusedVariables false
namespace Go.Fw
noncomputable section
def g_w_szBoneS (a : (List dRootKey)) (left : Int) : Option (Int) :=
  bif (ilt (isub .i64 left (((List.length a) : Nat) : Int)) 0) then
    some (-1)
  else
    some (isub .i64 left (((List.length a) : Nat) : Int))

def t_w_szBoneS (a : (List dRootKey)) (left : Int) : Int :=
  bif (ilt (isub .i64 left (((List.length a) : Nat) : Int)) 0) then
    (-1)
  else
    (isub .i64 left (((List.length a) : Nat) : Int))

theorem q_w_szBoneS (a : (List dRootKey)) (left : Int) : g_w_szBoneS a left = some (t_w_szBoneS a left) := by
  unfold g_w_szBoneS t_w_szBoneS; simp only [bif_some_some]


def g_w_szSkeleton (a : dSkel) (left : Int) : Option (Int) :=
  bif (ilt (t_w_szBoneS a.1 left) 0) then
    some (-1)
  else
    some (t_w_szBoneS a.1 left)

def t_w_szSkeleton (a : dSkel) (left : Int) : Int :=
  bif (ilt (t_w_szBoneS a.1 left) 0) then
    (-1)
  else
    (t_w_szBoneS a.1 left)

theorem q_w_szSkeleton (a : dSkel) (left : Int) : g_w_szSkeleton a left = some (t_w_szSkeleton a left) := by
  unfold g_w_szSkeleton t_w_szSkeleton; simp only [bif_some_some]


def g_w_toBone (a : dRootKey) : Option (dRootKey) :=
  some (a.1, ((t_w_toVector a.2.1), ()))

def t_w_toBone (a : dRootKey) : dRootKey :=
  (a.1, ((t_w_toVector a.2.1), ()))

theorem q_w_toBone (a : dRootKey) : g_w_toBone a = some (t_w_toBone a) := rfl


def L_w_toBoneS_1 (rec' : ((List dRootKey) × Int × Unit) × ((List dRootKey) × Unit) → Option ((Unit) × ((List dRootKey) × Unit))) (x : ((List dRootKey) × Int × Unit) × ((List dRootKey) × Unit)) : Option ((Unit) × ((List dRootKey) × Unit)) := match x with
  | ((a, i, ()), (r0, ())) =>
    bif (ilt i (((List.length a) : Nat) : Int)) then
      Option.bind (ix i (List.length a)) fun j1 =>
      Option.bind (ix i (List.length r0)) fun j2 =>
      rec' ((a, ((iadd .i64 i 1), ())), ((List.set r0 j2 (t_w_toBone (List.getD a j1 zRootKey))), ()))
    else
      some ((), (r0, ()))

def g_w_toBoneS (a : (List dRootKey)) : Option ((List dRootKey)) :=
  bif (mkOk (((List.length a) : Nat) : Int) (((List.length a) : Nat) : Int)) then
    Option.bind (iter L_w_toBoneS_1 fuel ((a, (0, ())), ((List.replicate (List.length a) (0, ((0, (0, (0, ()))), ()))), ()))) fun y1 =>
    some y1.2.1
  else
    none


def g_w_toSkeleton (a : dSkel) : Option (dSkel) :=
  Option.bind (g_w_toBoneS a.1) fun y1 =>
  some (y1, ())


def L_s_l03Is_1 (rec' : (dSkel × Bool × Int × Int × Unit) × (Unit) → Option (Bool × ((Bool × Unit) × (Unit)))) (x : (dSkel × Bool × Int × Int × Unit) × (Unit)) : Option (Bool × ((Bool × Unit) × (Unit))) := match x with
  | ((k, t2, n, i, ()), (())) =>
    bif (ilt i n) then
      Option.bind (ix i (List.length k.1)) fun j1 =>
      bif (!(t_s_l00In (List.getD k.1 j1 zRootKey).1 0 (isub .i64 i 1))) then
        some (true, ((false, ()), ()))
      else
        rec' ((k, (t2, (n, ((iadd .i64 i 1), ())))), ())
    else
      some (false, ((t2, ()), ()))

def g_s_l03Is (k : dSkel) : Option (Bool) :=
  bif (!(t_s_l00In (((List.length k.1) : Nat) : Int) 1 12)) then
    some false
  else
    Option.bind (ix 0 (List.length k.1)) fun j1 =>
    bif (!(ieq (List.getD k.1 j1 zRootKey).1 (-1))) then
      some false
    else
      Option.bind (iter L_s_l03Is_1 fuel ((k, (false, ((((List.length k.1) : Nat) : Int), (1, ())))), ())) fun y2 =>
      bif y2.1 then
        some y2.2.1.1
      else
        some true


def t_s_l09Point (xx : dSkinPoint) : Bool :=
  bif (ile 1 (((List.length xx.2.1) : Nat) : Int)) then
    bif (ile (((List.length xx.2.1) : Nat) : Int) 4) then
      (ieq (((List.length xx.2.2.1) : Nat) : Int) (((List.length xx.2.1) : Nat) : Int))
    else
      false
  else
    false

def L_i_ValidSkeleton_1 (rec' : (Bool × (List dRootKey) × Int × Int × Unit) × (Unit) → Option (Bool × ((Bool × Unit) × (Unit)))) (x : (Bool × (List dRootKey) × Int × Int × Unit) × (Unit)) : Option (Bool × ((Bool × Unit) × (Unit))) := match x with
  | ((t2, t25, t26, t27, ()), (())) =>
    bif (ilt t27 t26) then
      Option.bind (ix t27 (List.length t25)) fun j1 =>
      bif (ilt (List.getD t25 j1 zRootKey).1 0) then
        some (true, ((false, ()), ()))
      else
        bif (ilt t27 (List.getD t25 j1 zRootKey).1) then
          some (true, ((false, ()), ()))
        else
          rec' ((t2, (t25, (t26, ((iadd .i64 t27 1), ())))), ())
    else
      some (false, ((t2, ()), ()))

def g_i_ValidSkeleton (k : dSkel) : Option (Bool) :=
  bif (ilt (((List.length k.1) : Nat) : Int) 1) then
    some false
  else
    bif (ilt 12 (((List.length k.1) : Nat) : Int)) then
      some false
    else
      Option.bind (ix 0 (List.length k.1)) fun j1 =>
      bif (!(ieq (List.getD k.1 j1 zRootKey).1 (-1))) then
        some false
      else
        bif (decide ((1 : Int) ≤ (((List.length k.1) : Nat) : Int))) then
          Option.bind (iter L_i_ValidSkeleton_1 fuel ((false, ((List.drop 1 (List.take (List.length k.1) k.1)), ((((List.length (List.drop 1 (List.take (List.length k.1) k.1))) : Nat) : Int), (0, ())))), ())) fun y2 =>
          bif y2.1 then
            some y2.2.1.1
          else
            some true
        else
          none


def g_w_eqBone (a : dRootKey) (b : dRootKey) : Option (Bool) :=
  bif (!(ieq a.1 b.1)) then
    some false
  else
    bif (!(t_w_eqVector a.2.1 b.2.1)) then
      some false
    else
      some true

def t_w_eqBone (a : dRootKey) (b : dRootKey) : Bool :=
  bif (!(ieq a.1 b.1)) then
    false
  else
    bif (!(t_w_eqVector a.2.1 b.2.1)) then
      false
    else
      true

theorem q_w_eqBone (a : dRootKey) (b : dRootKey) : g_w_eqBone a b = some (t_w_eqBone a b) := by
  unfold g_w_eqBone t_w_eqBone; simp only [bif_some_some]


def L_w_eqBoneS_1 (rec' : ((List dRootKey) × (List dRootKey) × Bool × Int × Unit) × (Unit) → Option (Bool × ((Bool × Unit) × (Unit)))) (x : ((List dRootKey) × (List dRootKey) × Bool × Int × Unit) × (Unit)) : Option (Bool × ((Bool × Unit) × (Unit))) := match x with
  | ((a, b, t4, i, ()), (())) =>
    bif (ilt i (((List.length a) : Nat) : Int)) then
      Option.bind (ix i (List.length a)) fun j1 =>
      Option.bind (ix i (List.length b)) fun j2 =>
      bif (!(t_w_eqBone (List.getD a j1 zRootKey) (List.getD b j2 zRootKey))) then
        some (true, ((false, ()), ()))
      else
        rec' ((a, (b, (t4, ((iadd .i64 i 1), ())))), ())
    else
      some (false, ((t4, ()), ()))

def g_w_eqBoneS (a : (List dRootKey)) (b : (List dRootKey)) : Option (Bool) :=
  bif (!(ieq (((List.length a) : Nat) : Int) (((List.length b) : Nat) : Int))) then
    some false
  else
    Option.bind (iter L_w_eqBoneS_1 fuel ((a, (b, (false, (0, ())))), ())) fun y1 =>
    bif y1.1 then
      some y1.2.1.1
    else
      some true


def g_w_eqSkeleton (a : dSkel) (b : dSkel) : Option (Bool) :=
  Option.bind (g_w_eqBoneS a.1 b.1) fun y1 =>
  bif (!y1) then
    some false
  else
    some true


def g_w_eqSkinPoint (a : dSkinPoint) (b : dSkinPoint) : Option (Bool) :=
  bif (!(t_w_eqVector a.1 b.1)) then
    some false
  else
    Option.bind (g_w_eqInt64S a.2.1 b.2.1) fun y1 =>
    bif (!y1) then
      some false
    else
      Option.bind (g_w_eqFloat32S a.2.2.1 b.2.2.1) fun y2 =>
      bif (!y2) then
        some false
      else
        some true


def L_w_eqSkinPointS_1 (rec' : ((List dSkinPoint) × (List dSkinPoint) × Bool × Int × Unit) × (Unit) → Option (Bool × ((Bool × Unit) × (Unit)))) (x : ((List dSkinPoint) × (List dSkinPoint) × Bool × Int × Unit) × (Unit)) : Option (Bool × ((Bool × Unit) × (Unit))) := match x with
  | ((a, b, t4, i, ()), (())) =>
    bif (ilt i (((List.length a) : Nat) : Int)) then
      Option.bind (ix i (List.length a)) fun j1 =>
      Option.bind (ix i (List.length b)) fun j2 =>
      Option.bind (g_w_eqSkinPoint (List.getD a j1 zSkinPoint) (List.getD b j2 zSkinPoint)) fun y3 =>
      bif (!y3) then
        some (true, ((false, ()), ()))
      else
        rec' ((a, (b, (t4, ((iadd .i64 i 1), ())))), ())
    else
      some (false, ((t4, ()), ()))

def g_w_eqSkinPointS (a : (List dSkinPoint)) (b : (List dSkinPoint)) : Option (Bool) :=
  bif (!(ieq (((List.length a) : Nat) : Int) (((List.length b) : Nat) : Int))) then
    some false
  else
    Option.bind (iter L_w_eqSkinPointS_1 fuel ((a, (b, (false, (0, ())))), ())) fun y1 =>
    bif y1.1 then
      some y1.2.1.1
    else
      some true


def L_w_markSkinPointS_1 (rec' : (Int × Int × Unit) × ((List dSkinPoint) × Unit) → Option ((Int × Unit) × ((List dSkinPoint) × Unit))) (x : (Int × Int × Unit) × ((List dSkinPoint) × Unit)) : Option ((Int × Unit) × ((List dSkinPoint) × Unit)) := match x with
  | ((k, i, ()), (r0, ())) =>
    bif (ilt i (((List.length r0) : Nat) : Int)) then
      Option.bind (ix i (List.length r0)) fun j1 =>
      let e2 := (List.set r0 j1 (((fofInt .f32 k), (List.getD r0 j1 zSkinPoint).1.2), (List.getD r0 j1 zSkinPoint).2))
      Option.bind (ix i (List.length e2)) fun j3 =>
      let e4 := (List.getD e2 j3 zSkinPoint)
      let e5 := (List.set e2 j3 ((e4.1.1, ((fofInt .f32 (iadd .i64 k 1)), e4.1.2.2)), e4.2))
      Option.bind (ix i (List.length e5)) fun j6 =>
      let e7 := (List.getD e5 j6 zSkinPoint)
      let e8 := (List.set e5 j6 ((e7.1.1, (e7.1.2.1, ((fofInt .f32 (iadd .i64 (iadd .i64 k 1) 1)), ()))), e7.2))
      Option.bind (ix i (List.length e8)) fun j9 =>
      let e10 := (List.getD e8 j9 zSkinPoint)
      Option.bind (g_w_markInt64S e10.2.1 (iadd .i64 (iadd .i64 (iadd .i64 k 1) 1) 1)) fun y11 =>
      let e12 := (List.set e8 j9 (e10.1, (y11.2.1, e10.2.2)))
      Option.bind (ix i (List.length e12)) fun j13 =>
      let e14 := (List.getD e12 j13 zSkinPoint)
      Option.bind (g_w_markFloat32S e14.2.2.1 y11.1) fun y15 =>
      rec' ((y15.1, ((iadd .i64 i 1), ())), ((List.set e12 j13 (e14.1, (e14.2.1, (y15.2.1, ())))), ()))
    else
      some ((k, ()), (r0, ()))

def g_w_markSkinPointS (a : (List dSkinPoint)) (k : Int) : Option (Int × ((List dSkinPoint) × Int × Unit)) :=
  Option.bind (iter L_w_markSkinPointS_1 fuel ((k, (0, ())), (a, ()))) fun y1 =>
  some (y1.1.1, (y1.2.1, (k, ())))


def L_w_heldSkinPointS_1 (rec' : ((List dSkinPoint) × Int × Int × Int × Unit) × (Unit) → Option (Bool × ((Int × Int × Unit) × (Unit)))) (x : ((List dSkinPoint) × Int × Int × Int × Unit) × (Unit)) : Option (Bool × ((Int × Int × Unit) × (Unit))) := match x with
  | ((a, k, t4, i, ()), (())) =>
    bif (ilt i (((List.length a) : Nat) : Int)) then
      Option.bind (ix i (List.length a)) fun j1 =>
      bif (!(feq .f32 (List.getD a j1 zSkinPoint).1.1 (fofInt .f32 k))) then
        some (true, ((k, ((-1), ())), ()))
      else
        Option.bind (ix i (List.length a)) fun j2 =>
        bif (!(feq .f32 (List.getD a j2 zSkinPoint).1.2.1 (fofInt .f32 (iadd .i64 k 1)))) then
          some (true, (((iadd .i64 k 1), ((-1), ())), ()))
        else
          Option.bind (ix i (List.length a)) fun j3 =>
          bif (!(feq .f32 (List.getD a j3 zSkinPoint).1.2.2.1 (fofInt .f32 (iadd .i64 (iadd .i64 k 1) 1)))) then
            some (true, (((iadd .i64 (iadd .i64 k 1) 1), ((-1), ())), ()))
          else
            Option.bind (ix i (List.length a)) fun j4 =>
            Option.bind (g_w_heldInt64S (List.getD a j4 zSkinPoint).2.1 (iadd .i64 (iadd .i64 (iadd .i64 k 1) 1) 1)) fun y5 =>
            bif (ilt y5 0) then
              some (true, ((y5, ((-1), ())), ()))
            else
              Option.bind (ix i (List.length a)) fun j6 =>
              Option.bind (g_w_heldFloat32S (List.getD a j6 zSkinPoint).2.2.1 y5) fun y7 =>
              bif (ilt y7 0) then
                some (true, ((y7, ((-1), ())), ()))
              else
                rec' ((a, (y7, (t4, ((iadd .i64 i 1), ())))), ())
    else
      some (false, ((k, (t4, ())), ()))

def g_w_heldSkinPointS (a : (List dSkinPoint)) (k : Int) : Option (Int) :=
  Option.bind (iter L_w_heldSkinPointS_1 fuel ((a, (k, (0, (0, ())))), ())) fun y1 =>
  bif y1.1 then
    some y1.2.1.2.1
  else
    some y1.2.1.1


def g_s_l03Pose (k : dSkel) (p : dPose) : Option (Bool) :=
  Option.bind (g_s_l03Is k) fun y1 =>
  bif y1 then
    some (ieq (((List.length p.2.1) : Nat) : Int) (((List.length k.1) : Nat) : Int))
  else
    some false


def g_s_l02Mul (a : dTurn) (b : dTurn) : Option (dTurn) :=
  some ((fsub .f32 (fsub .f32 (fsub .f32 (fmul .f32 a.1 b.1) (fmul .f32 a.2.1 b.2.1)) (fmul .f32 a.2.2.1 b.2.2.1)) (fmul .f32 a.2.2.2.1 b.2.2.2.1)), ((fsub .f32 (fadd .f32 (fadd .f32 (fmul .f32 a.1 b.2.1) (fmul .f32 a.2.1 b.1)) (fmul .f32 a.2.2.1 b.2.2.2.1)) (fmul .f32 a.2.2.2.1 b.2.2.1)), ((fadd .f32 (fadd .f32 (fsub .f32 (fmul .f32 a.1 b.2.2.1) (fmul .f32 a.2.1 b.2.2.2.1)) (fmul .f32 a.2.2.1 b.1)) (fmul .f32 a.2.2.2.1 b.2.1)), ((fadd .f32 (fsub .f32 (fadd .f32 (fmul .f32 a.1 b.2.2.2.1) (fmul .f32 a.2.1 b.2.2.1)) (fmul .f32 a.2.2.1 b.2.1)) (fmul .f32 a.2.2.2.1 b.1)), ()))))

def t_s_l02Mul (a : dTurn) (b : dTurn) : dTurn :=
  ((fsub .f32 (fsub .f32 (fsub .f32 (fmul .f32 a.1 b.1) (fmul .f32 a.2.1 b.2.1)) (fmul .f32 a.2.2.1 b.2.2.1)) (fmul .f32 a.2.2.2.1 b.2.2.2.1)), ((fsub .f32 (fadd .f32 (fadd .f32 (fmul .f32 a.1 b.2.1) (fmul .f32 a.2.1 b.1)) (fmul .f32 a.2.2.1 b.2.2.2.1)) (fmul .f32 a.2.2.2.1 b.2.2.1)), ((fadd .f32 (fadd .f32 (fsub .f32 (fmul .f32 a.1 b.2.2.1) (fmul .f32 a.2.1 b.2.2.2.1)) (fmul .f32 a.2.2.1 b.1)) (fmul .f32 a.2.2.2.1 b.2.1)), ((fadd .f32 (fsub .f32 (fadd .f32 (fmul .f32 a.1 b.2.2.2.1) (fmul .f32 a.2.1 b.2.2.1)) (fmul .f32 a.2.2.1 b.2.1)) (fmul .f32 a.2.2.2.1 b.1)), ()))))

theorem q_s_l02Mul (a : dTurn) (b : dTurn) : g_s_l02Mul a b = some (t_s_l02Mul a b) := rfl


def g_s_l02Axis (t : dTurn) : Option (dVec) :=
  some t.2

def t_s_l02Axis (t : dTurn) : dVec :=
  t.2

theorem q_s_l02Axis (t : dTurn) : g_s_l02Axis t = some (t_s_l02Axis t) := rfl


def g_s_l01Cross (a : dVec) (b : dVec) : Option (dVec) :=
  some ((fsub .f32 (fmul .f32 a.2.1 b.2.2.1) (fmul .f32 a.2.2.1 b.2.1)), ((fsub .f32 (fmul .f32 a.2.2.1 b.1) (fmul .f32 a.1 b.2.2.1)), ((fsub .f32 (fmul .f32 a.1 b.2.1) (fmul .f32 a.2.1 b.1)), ())))

def t_s_l01Cross (a : dVec) (b : dVec) : dVec :=
  ((fsub .f32 (fmul .f32 a.2.1 b.2.2.1) (fmul .f32 a.2.2.1 b.2.1)), ((fsub .f32 (fmul .f32 a.2.2.1 b.1) (fmul .f32 a.1 b.2.2.1)), ((fsub .f32 (fmul .f32 a.1 b.2.1) (fmul .f32 a.2.1 b.1)), ())))

theorem q_s_l01Cross (a : dVec) (b : dVec) : g_s_l01Cross a b = some (t_s_l01Cross a b) := rfl


def g_s_l02Rotate (t : dTurn) (v : dVec) : Option (dVec) :=
  some (t_s_l01Add (t_s_l01Add v (t_s_l01Scale (t_s_l01Scale (t_s_l01Cross (t_s_l02Axis t) v) 1073741824) t.1)) (t_s_l01Cross (t_s_l02Axis t) (t_s_l01Scale (t_s_l01Cross (t_s_l02Axis t) v) 1073741824)))

def t_s_l02Rotate (t : dTurn) (v : dVec) : dVec :=
  (t_s_l01Add (t_s_l01Add v (t_s_l01Scale (t_s_l01Scale (t_s_l01Cross (t_s_l02Axis t) v) 1073741824) t.1)) (t_s_l01Cross (t_s_l02Axis t) (t_s_l01Scale (t_s_l01Cross (t_s_l02Axis t) v) 1073741824)))

theorem q_s_l02Rotate (t : dTurn) (v : dVec) : g_s_l02Rotate t v = some (t_s_l02Rotate t v) := rfl


def L_s_l03World_1 (rec' : (dSkel × dPose × Int × Unit) × ((List dTurn) × (List dVec) × Unit) → Option ((Unit) × ((List dTurn) × (List dVec) × Unit))) (x : (dSkel × dPose × Int × Unit) × ((List dTurn) × (List dVec) × Unit)) : Option ((Unit) × ((List dTurn) × (List dVec) × Unit)) := match x with
  | ((k, p, i, ()), (r0, r1, ())) =>
    bif (ilt i (((List.length k.1) : Nat) : Int)) then
      Option.bind (ix i (List.length k.1)) fun j1 =>
      Option.bind (ix (List.getD k.1 j1 zRootKey).1 (List.length r0)) fun j2 =>
      Option.bind (ix i (List.length p.2.1)) fun j3 =>
      let e4 := (r0 ++ [(t_s_l02Mul (List.getD r0 j2 zTurn) (List.getD p.2.1 j3 zTurn))])
      bif (Nat.ble ((List.length r0) + 1) 4294967296) then
        Option.bind (ix (List.getD k.1 j1 zRootKey).1 (List.length r1)) fun j5 =>
        Option.bind (ix (List.getD k.1 j1 zRootKey).1 (List.length e4)) fun j6 =>
        bif (Nat.ble ((List.length r1) + 1) 4294967296) then
          rec' ((k, (p, ((iadd .i64 i 1), ()))), (e4, ((r1 ++ [(t_s_l01Add (List.getD r1 j5 zVec) (t_s_l02Rotate (List.getD e4 j6 zTurn) (List.getD k.1 j1 zRootKey).2.1))]), ())))
        else
          none
      else
        none
    else
      some ((), (r0, (r1, ())))

def g_s_l03World (k : dSkel) (p : dPose) : Option (((List dTurn) × ((List dVec) × Unit))) :=
  Option.bind (ix 0 (List.length p.2.1)) fun j1 =>
  Option.bind (iter L_s_l03World_1 fuel ((k, (p, (1, ()))), ([(List.getD p.2.1 j1 zTurn)], ([p.1], ())))) fun y2 =>
  some (y2.2.1, (y2.2.2.1, ()))


def g_i_IsPose (k : dSkel) (p : dPose) : Option (Bool) :=
  Option.bind (g_i_ValidSkeleton k) fun y1 =>
  bif y1 then
    some (ieq (((List.length p.2.1) : Nat) : Int) (((List.length k.1) : Nat) : Int))
  else
    some false


def g_i_MulTurns (a : dTurn) (b : dTurn) : Option (dTurn) :=
  some ((fsub .f32 (fsub .f32 (fsub .f32 (fmul .f32 a.1 b.1) (fmul .f32 a.2.1 b.2.1)) (fmul .f32 a.2.2.1 b.2.2.1)) (fmul .f32 a.2.2.2.1 b.2.2.2.1)), ((fsub .f32 (fadd .f32 (fadd .f32 (fmul .f32 a.1 b.2.1) (fmul .f32 a.2.1 b.1)) (fmul .f32 a.2.2.1 b.2.2.2.1)) (fmul .f32 a.2.2.2.1 b.2.2.1)), ((fadd .f32 (fadd .f32 (fsub .f32 (fmul .f32 a.1 b.2.2.1) (fmul .f32 a.2.1 b.2.2.2.1)) (fmul .f32 a.2.2.1 b.1)) (fmul .f32 a.2.2.2.1 b.2.1)), ((fadd .f32 (fsub .f32 (fadd .f32 (fmul .f32 a.1 b.2.2.2.1) (fmul .f32 a.2.1 b.2.2.1)) (fmul .f32 a.2.2.1 b.2.1)) (fmul .f32 a.2.2.2.1 b.1)), ()))))

def t_i_MulTurns (a : dTurn) (b : dTurn) : dTurn :=
  ((fsub .f32 (fsub .f32 (fsub .f32 (fmul .f32 a.1 b.1) (fmul .f32 a.2.1 b.2.1)) (fmul .f32 a.2.2.1 b.2.2.1)) (fmul .f32 a.2.2.2.1 b.2.2.2.1)), ((fsub .f32 (fadd .f32 (fadd .f32 (fmul .f32 a.1 b.2.1) (fmul .f32 a.2.1 b.1)) (fmul .f32 a.2.2.1 b.2.2.2.1)) (fmul .f32 a.2.2.2.1 b.2.2.1)), ((fadd .f32 (fadd .f32 (fsub .f32 (fmul .f32 a.1 b.2.2.1) (fmul .f32 a.2.1 b.2.2.2.1)) (fmul .f32 a.2.2.1 b.1)) (fmul .f32 a.2.2.2.1 b.2.1)), ((fadd .f32 (fsub .f32 (fadd .f32 (fmul .f32 a.1 b.2.2.2.1) (fmul .f32 a.2.1 b.2.2.1)) (fmul .f32 a.2.2.1 b.2.1)) (fmul .f32 a.2.2.2.1 b.1)), ()))))

theorem q_i_MulTurns (a : dTurn) (b : dTurn) : g_i_MulTurns a b = some (t_i_MulTurns a b) := rfl


def g_i_Turn_vector (t : dTurn) : Option (dVec) :=
  some t.2

def t_i_Turn_vector (t : dTurn) : dVec :=
  t.2

theorem q_i_Turn_vector (t : dTurn) : g_i_Turn_vector t = some (t_i_Turn_vector t) := rfl


def g_i_CrossOf (a : dVec) (b : dVec) : Option (dVec) :=
  some ((fsub .f32 (fmul .f32 a.2.1 b.2.2.1) (fmul .f32 a.2.2.1 b.2.1)), ((fsub .f32 (fmul .f32 a.2.2.1 b.1) (fmul .f32 a.1 b.2.2.1)), ((fsub .f32 (fmul .f32 a.1 b.2.1) (fmul .f32 a.2.1 b.1)), ())))

def t_i_CrossOf (a : dVec) (b : dVec) : dVec :=
  ((fsub .f32 (fmul .f32 a.2.1 b.2.2.1) (fmul .f32 a.2.2.1 b.2.1)), ((fsub .f32 (fmul .f32 a.2.2.1 b.1) (fmul .f32 a.1 b.2.2.1)), ((fsub .f32 (fmul .f32 a.1 b.2.1) (fmul .f32 a.2.1 b.1)), ())))

theorem q_i_CrossOf (a : dVec) (b : dVec) : g_i_CrossOf a b = some (t_i_CrossOf a b) := rfl


def g_i_RotateBy (t : dTurn) (v : dVec) : Option (dVec) :=
  some (t_i_AddVectors (t_i_AddVectors v (t_i_ScaleVector (t_i_ScaleVector (t_i_CrossOf (t_i_Turn_vector t) v) 1073741824) t.1)) (t_i_CrossOf (t_i_Turn_vector t) (t_i_ScaleVector (t_i_CrossOf (t_i_Turn_vector t) v) 1073741824)))

def t_i_RotateBy (t : dTurn) (v : dVec) : dVec :=
  (t_i_AddVectors (t_i_AddVectors v (t_i_ScaleVector (t_i_ScaleVector (t_i_CrossOf (t_i_Turn_vector t) v) 1073741824) t.1)) (t_i_CrossOf (t_i_Turn_vector t) (t_i_ScaleVector (t_i_CrossOf (t_i_Turn_vector t) v) 1073741824)))

theorem q_i_RotateBy (t : dTurn) (v : dVec) : g_i_RotateBy t v = some (t_i_RotateBy t v) := rfl


def L_i_Skeleton_world_1 (rec' : ((List dRootKey) × Int × Int × Unit) × ((dPose × Unit) × (List dTurn) × (List dVec) × Unit) → Option ((Unit) × ((List dTurn) × (List dVec) × Unit))) (x : ((List dRootKey) × Int × Int × Unit) × ((dPose × Unit) × (List dTurn) × (List dVec) × Unit)) : Option ((Unit) × ((List dTurn) × (List dVec) × Unit)) := match x with
  | ((t35, t36, t37, ()), ((b0, ()), r1, r2, ())) =>
    let e1 := (t35, (t36, ((iadd .i64 t37 1), ())))
    bif (ilt t37 t36) then
      Option.bind (ix t37 (List.length t35)) fun j2 =>
      bif (ilt 0 t37) then
        Option.bind (ix (List.getD t35 j2 zRootKey).1 (List.length r1)) fun j3 =>
        Option.bind (ix t37 (List.length b0.2.1)) fun j4 =>
        Option.bind (ix t37 (List.length r1)) fun j5 =>
        let e6 := (List.set r1 j5 (t_i_MulTurns (List.getD r1 j3 zTurn) (List.getD b0.2.1 j4 zTurn)))
        Option.bind (ix (List.getD t35 j2 zRootKey).1 (List.length r2)) fun j7 =>
        Option.bind (ix (List.getD t35 j2 zRootKey).1 (List.length e6)) fun j8 =>
        Option.bind (ix t37 (List.length r2)) fun j9 =>
        rec' (e1, ((b0, ()), (e6, ((List.set r2 j9 (t_i_AddVectors (List.getD r2 j7 zVec) (t_i_RotateBy (List.getD e6 j8 zTurn) (List.getD t35 j2 zRootKey).2.1))), ()))))
      else
        rec' (e1, ((b0, ()), (r1, (r2, ()))))
    else
      some ((), (r1, (r2, ())))

def g_i_Skeleton_world (k : dSkel) (p : dPose) : Option (((List dTurn) × ((List dVec) × Unit))) :=
  let e1 := (mkOk (((List.length k.1) : Nat) : Int) (((List.length k.1) : Nat) : Int))
  let e2 := (List.replicate (List.length k.1) (0, (0, (0, ()))))
  let e3 := (List.replicate (List.length k.1) (0, (0, (0, (0, ())))))
  bif e1 then
    bif e1 then
      Option.bind (ix 0 (List.length p.2.1)) fun j4 =>
      Option.bind (ix 0 (List.length e3)) fun j5 =>
      Option.bind (ix 0 (List.length e2)) fun j6 =>
      Option.bind (iter L_i_Skeleton_world_1 fuel ((k.1, ((((List.length k.1) : Nat) : Int), (0, ()))), ((p, ()), ((List.set e3 j5 (List.getD p.2.1 j4 zTurn)), ((List.set e2 j6 p.1), ()))))) fun y7 =>
      some (y7.2.1, (y7.2.2.1, ()))
    else
      none
  else
    none


def L_w_markBoneS_1 (rec' : (Int × Int × Unit) × ((List dRootKey) × Unit) → Option ((Int × Unit) × ((List dRootKey) × Unit))) (x : (Int × Int × Unit) × ((List dRootKey) × Unit)) : Option ((Int × Unit) × ((List dRootKey) × Unit)) := match x with
  | ((k, i, ()), (r0, ())) =>
    bif (ilt i (((List.length r0) : Nat) : Int)) then
      Option.bind (ix i (List.length r0)) fun j1 =>
      let e2 := (List.set r0 j1 (k, (List.getD r0 j1 zRootKey).2))
      Option.bind (ix i (List.length e2)) fun j3 =>
      let e4 := (List.getD e2 j3 zRootKey)
      let e5 := (List.set e2 j3 (e4.1, (((fofInt .f32 (iadd .i64 k 1)), e4.2.1.2), ())))
      Option.bind (ix i (List.length e5)) fun j6 =>
      let e7 := (List.getD e5 j6 zRootKey)
      let e8 := (List.set e5 j6 (e7.1, ((e7.2.1.1, ((fofInt .f32 (iadd .i64 (iadd .i64 k 1) 1)), e7.2.1.2.2)), ())))
      Option.bind (ix i (List.length e8)) fun j9 =>
      let e10 := (List.getD e8 j9 zRootKey)
      rec' (((iadd .i64 (iadd .i64 (iadd .i64 (iadd .i64 k 1) 1) 1) 1), ((iadd .i64 i 1), ())), ((List.set e8 j9 (e10.1, ((e10.2.1.1, (e10.2.1.2.1, ((fofInt .f32 (iadd .i64 (iadd .i64 (iadd .i64 k 1) 1) 1)), ()))), ()))), ()))
    else
      some ((k, ()), (r0, ()))

def g_w_markBoneS (a : (List dRootKey)) (k : Int) : Option (Int × ((List dRootKey) × Int × Unit)) :=
  Option.bind (iter L_w_markBoneS_1 fuel ((k, (0, ())), (a, ()))) fun y1 =>
  some (y1.1.1, (y1.2.1, (k, ())))


def g_w_markSkeleton (a : dSkel) (k : Int) : Option (Int × (dSkel × Int × Unit)) :=
  Option.bind (g_w_markBoneS a.1 k) fun y1 =>
  some (y1.1, ((y1.2.1, ()), (k, ())))


def L_s_AssignSkin_2 (rec' : ((List dVec) × Int × Int × Nat × Int × Int × Int × Int × Unit) × ((List dVec) × (List dSkinPoint) × Unit) → Option (((List dVec) × Int × Int × Int × Int × Unit) × ((List dVec) × (List dSkinPoint) × Unit))) (x : ((List dVec) × Int × Int × Nat × Int × Int × Int × Int × Unit) × ((List dVec) × (List dSkinPoint) × Unit)) : Option (((List dVec) × Int × Int × Int × Int × Unit) × ((List dVec) × (List dSkinPoint) × Unit)) := match x with
  | ((places, i, best, least, t29, t30, t43, t44, ()), (r3, r4, ())) =>
    let e1 := (t29, (t30, (t43, ((iadd .i64 t44 1), ()))))
    let e2 := ((places, (i, (best, (least, e1)))), (r3, (r4, ())))
    bif (ilt t44 t43) then
      Option.bind (ix i (List.length places)) fun j3 =>
      Option.bind (ix t44 (List.length r3)) fun j4 =>
      Option.bind (g_s_l01Long (t_s_l01Less (List.getD places j3 zVec) (List.getD r3 j4 zVec))) fun y5 =>
      let e6 := ((places, (i, (t44, (y5, e1)))), (r3, (r4, ())))
      bif (flt .f32 y5 least) then
        rec' e6
      else
        bif (feq .f32 y5 y5) then
          bif (!(feq .f32 least least)) then
            rec' e6
          else
            rec' e2
        else
          rec' e2
    else
      some ((places, (i, (best, (t29, (t30, ()))))), (r3, (r4, ())))

def L_s_AssignSkin_1 (rec' : ((List dVec) × Int × Int × Unit) × ((List dVec) × (List dSkinPoint) × Unit) → Option ((Unit) × ((List dSkinPoint) × Unit))) (x : ((List dVec) × Int × Int × Unit) × ((List dVec) × (List dSkinPoint) × Unit)) : Option ((Unit) × ((List dSkinPoint) × Unit)) := match x with
  | ((places, t29, t30, ()), (r3, r4, ())) =>
    bif (ilt t30 t29) then
      Option.bind (ix t30 (List.length places)) fun j1 =>
      Option.bind (ix 0 (List.length r3)) fun j2 =>
      Option.bind (g_s_l01Long (t_s_l01Less (List.getD places j1 zVec) (List.getD r3 j2 zVec))) fun y3 =>
      Option.bind (iter L_s_AssignSkin_2 fuel ((places, (t30, (0, (y3, (t29, (t30, ((((List.length r3) : Nat) : Int), (0, ())))))))), (r3, (r4, ())))) fun y4 =>
      Option.bind (ix y4.1.2.1 (List.length y4.1.1)) fun j5 =>
      let e6 := (([] : List dSkinPoint) ++ [((List.getD y4.1.1 j5 zVec), ([y4.1.2.2.1], ([1065353216], ())))])
      bif (Nat.ble ((List.length y4.2.2.1) + (List.length e6)) 4294967296) then
        rec' ((y4.1.1, (y4.1.2.2.2.1, ((iadd .i64 y4.1.2.2.2.2.1 1), ()))), (y4.2.1, ((y4.2.2.1 ++ e6), ())))
      else
        none
    else
      some ((), (r4, ()))

def g_s_AssignSkin (k : dSkel) (rest : dPose) (places : (List dVec)) : Option (((List dSkinPoint) × (Bool × Unit))) :=
  Option.bind (g_s_l03Pose k rest) fun y1 =>
  bif (!y1) then
    some (([] : List dSkinPoint), (false, ()))
  else
    bif (ilt 24 (((List.length places) : Nat) : Int)) then
      some (([] : List dSkinPoint), (false, ()))
    else
      Option.bind (g_s_l03World k rest) fun y2 =>
      Option.bind (iter L_s_AssignSkin_1 fuel ((places, ((((List.length places) : Nat) : Int), (0, ()))), (y2.2.1, ((([] : List dSkinPoint) ++ []), ())))) fun y3 =>
      some (y3.2.1, (true, ()))


def L_i_AssignSkin_2 (rec' : (Int × Nat × (List dVec) × Int × Int × Int × Int × Unit) × ((List dVec) × (List dSkinPoint) × (dVec × Unit) × Unit) → Option ((Int × (List dVec) × Int × Int × Unit) × ((List dVec) × (List dSkinPoint) × (dVec × Unit) × Unit))) (x : (Int × Nat × (List dVec) × Int × Int × Int × Int × Unit) × ((List dVec) × (List dSkinPoint) × (dVec × Unit) × Unit)) : Option ((Int × (List dVec) × Int × Int × Unit) × ((List dVec) × (List dSkinPoint) × (dVec × Unit) × Unit)) := match x with
  | ((best, least, t31, t32, t33, t44, t45, ()), (r3, r4, (b5, ()), ())) =>
    let e1 := (r3, (r4, ((b5, ()), ())))
    let e2 := (t31, (t32, (t33, (t44, ((iadd .i64 t45 1), ())))))
    let e3 := ((best, (least, e2)), e1)
    bif (ilt t45 t44) then
      Option.bind (ix t45 (List.length r3)) fun j4 =>
      Option.bind (g_i_LongOf (t_i_LessVectors b5 (List.getD r3 j4 zVec))) fun y5 =>
      let e6 := ((t45, (y5, e2)), e1)
      bif (flt .f32 y5 least) then
        rec' e6
      else
        bif (!(feq .f32 least least)) then
          bif (feq .f32 y5 y5) then
            rec' e6
          else
            rec' e3
        else
          rec' e3
    else
      some ((best, (t31, (t32, (t33, ())))), e1)

def L_i_AssignSkin_1 (rec' : ((List dVec) × Int × Int × Unit) × ((List dVec) × (List dSkinPoint) × Unit) → Option ((Unit) × ((List dSkinPoint) × Unit))) (x : ((List dVec) × Int × Int × Unit) × ((List dVec) × (List dSkinPoint) × Unit)) : Option ((Unit) × ((List dSkinPoint) × Unit)) := match x with
  | ((t31, t32, t33, ()), (r3, r4, ())) =>
    bif (ilt t33 t32) then
      Option.bind (ix t33 (List.length t31)) fun j1 =>
      Option.bind (ix 0 (List.length r3)) fun j2 =>
      Option.bind (g_i_LongOf (t_i_LessVectors (List.getD t31 j1 zVec) (List.getD r3 j2 zVec))) fun y3 =>
      Option.bind (iter L_i_AssignSkin_2 fuel ((0, (y3, (t31, (t32, (t33, ((((List.length r3) : Nat) : Int), (0, ()))))))), (r3, (r4, (((List.getD t31 j1 zVec), ()), ()))))) fun y4 =>
      let e5 := (([] : List dSkinPoint) ++ [(y4.2.2.2.1.1, ([y4.1.1], ([1065353216], ())))])
      bif (Nat.ble ((List.length y4.2.2.1) + (List.length e5)) 4294967296) then
        rec' ((y4.1.2.1, (y4.1.2.2.1, ((iadd .i64 y4.1.2.2.2.1 1), ()))), (y4.2.1, ((y4.2.2.1 ++ e5), ())))
      else
        none
    else
      some ((), (r4, ()))

def g_i_AssignSkin (k : dSkel) (rest : dPose) (places : (List dVec)) : Option (((List dSkinPoint) × (Bool × Unit))) :=
  Option.bind (g_i_IsPose k rest) fun y1 =>
  bif (!y1) then
    some (([] : List dSkinPoint), (false, ()))
  else
    bif (ilt 24 (((List.length places) : Nat) : Int)) then
      some (([] : List dSkinPoint), (false, ()))
    else
      Option.bind (g_i_Skeleton_world k rest) fun y2 =>
      Option.bind (iter L_i_AssignSkin_1 fuel ((places, ((((List.length places) : Nat) : Int), (0, ()))), (y2.2.1, (([] : List dSkinPoint), ())))) fun y3 =>
      some (y3.2.1, (true, ()))


def g_w_FnExactAssignSkin (aK : dSkel) (aRest : dPose) (aPlaces : (List dVec)) : Option (Bool) :=
  bif (ilt (t_w_szSkeleton aK 1048576) 0) then
    some true
  else
    bif (ilt (t_w_szPose aRest (t_w_szSkeleton aK 1048576)) 0) then
      some true
    else
      bif (ilt (t_w_szVectorS aPlaces (t_w_szPose aRest (t_w_szSkeleton aK 1048576))) 0) then
        some true
      else
        Option.bind (g_w_toSkeleton aK) fun y1 =>
        Option.bind (g_w_toPose aRest) fun y2 =>
        Option.bind (g_w_toVectorS aPlaces) fun y3 =>
        Option.bind (g_s_AssignSkin y1 y2 y3) fun y4 =>
        Option.bind (g_w_toSkeleton aK) fun y5 =>
        Option.bind (g_w_toPose aRest) fun y6 =>
        Option.bind (g_w_toVectorS aPlaces) fun y7 =>
        Option.bind (g_i_AssignSkin y5 y6 y7) fun y8 =>
        Option.bind (g_w_eqSkinPointS y8.1 y4.1) fun y9 =>
        bif (!y9) then
          some false
        else
          bif (!(y8.2.1 == y4.2.1)) then
            some false
          else
            Option.bind (g_w_toSkeleton aK) fun y10 =>
            Option.bind (g_w_eqSkeleton y5 y10) fun y11 =>
            bif (!y11) then
              some false
            else
              Option.bind (g_w_toPose aRest) fun y12 =>
              Option.bind (g_w_eqPose y6 y12) fun y13 =>
              bif (!y13) then
                some false
              else
                Option.bind (g_w_toVectorS aPlaces) fun y14 =>
                Option.bind (g_w_eqVectorS y7 y14) fun y15 =>
                bif (!y15) then
                  some false
                else
                  Option.bind (g_w_markSkeleton y5 1) fun y16 =>
                  Option.bind (g_w_markPose y6 y16.1) fun y17 =>
                  Option.bind (g_w_markVectorS y7 y17.1) fun y18 =>
                  bif (ilt y18.1 0) then
                    some false
                  else
                    Option.bind (g_w_eqSkinPointS y8.1 y4.1) fun y19 =>
                    bif (!y19) then
                      some false
                    else
                      bif (!(y8.2.1 == y4.2.1)) then
                        some false
                      else
                        Option.bind (g_w_markSkinPointS y8.1 1) fun y20 =>
                        Option.bind (g_w_heldSkinPointS y20.2.1 1) fun y21 =>
                        bif (ilt y21 0) then
                          some false
                        else
                          bif (!(ieq y21 y20.1)) then
                            some false
                          else
                            Option.bind (g_w_toSkeleton aK) fun y22 =>
                            Option.bind (g_w_toPose aRest) fun y23 =>
                            Option.bind (g_w_toVectorS aPlaces) fun y24 =>
                            Option.bind (g_i_AssignSkin y22 y23 y24) fun y25 =>
                            Option.bind (g_w_eqSkinPointS y25.1 y4.1) fun y26 =>
                            bif (!y26) then
                              some false
                            else
                              bif (!(y25.2.1 == y4.2.1)) then
                                some false
                              else
                                Option.bind (g_w_heldSkinPointS y20.2.1 1) fun y27 =>
                                bif (ilt y27 0) then
                                  some false
                                else
                                  bif (!(ieq y27 y20.1)) then
                                    some false
                                  else
                                    some true


end
end Go.Fw
