/- What the functions compute, as plain Lean functions. No condition. -/
import Derived.Test.YtmfmdoppjcaedaaGreatDoorGenTypes
set_option linter.unusedVariables false
namespace Go.Fw
noncomputable section
def g_w_szKeyS (a : (List dKey)) (left : Int) : Option (Int) :=
  bif (ilt (isub .i64 left (((List.length a) : Nat) : Int)) 0) then
    some (-1)
  else
    some (isub .i64 left (((List.length a) : Nat) : Int))

def t_w_szKeyS (a : (List dKey)) (left : Int) : Int :=
  bif (ilt (isub .i64 left (((List.length a) : Nat) : Int)) 0) then
    (-1)
  else
    (isub .i64 left (((List.length a) : Nat) : Int))

theorem q_w_szKeyS (a : (List dKey)) (left : Int) : g_w_szKeyS a left = some (t_w_szKeyS a left) := by
  unfold g_w_szKeyS t_w_szKeyS; simp only [bif_some_some]


def L_w_szKeySS_1 (rec' : ((List (List dKey)) × Int × Int × Int × Unit) × (Unit) → Option (Bool × ((Int × Int × Unit) × (Unit)))) (x : ((List (List dKey)) × Int × Int × Int × Unit) × (Unit)) : Option (Bool × ((Int × Int × Unit) × (Unit))) := match x with
  | ((a, left, t4, i, ()), (())) =>
    bif (ilt i (((List.length a) : Nat) : Int)) then
      Option.bind (ix i (List.length a)) fun j1 =>
      bif (ilt (t_w_szKeyS (List.getD a j1 []) left) 0) then
        some (true, (((t_w_szKeyS (List.getD a j1 []) left), ((-1), ())), ()))
      else
        rec' ((a, ((t_w_szKeyS (List.getD a j1 []) left), (t4, ((iadd .i64 i 1), ())))), ())
    else
      some (false, ((left, (t4, ())), ()))

def g_w_szKeySS (a : (List (List dKey))) (left : Int) : Option (Int) :=
  bif (ilt (isub .i64 left (((List.length a) : Nat) : Int)) 0) then
    some (-1)
  else
    Option.bind (iter L_w_szKeySS_1 fuel ((a, ((isub .i64 left (((List.length a) : Nat) : Int)), (0, (0, ())))), ())) fun y1 =>
    bif y1.1 then
      some y1.2.1.2.1
    else
      some y1.2.1.1


def g_w_szRootKeyS (a : (List dRootKey)) (left : Int) : Option (Int) :=
  bif (ilt (isub .i64 left (((List.length a) : Nat) : Int)) 0) then
    some (-1)
  else
    some (isub .i64 left (((List.length a) : Nat) : Int))

def t_w_szRootKeyS (a : (List dRootKey)) (left : Int) : Int :=
  bif (ilt (isub .i64 left (((List.length a) : Nat) : Int)) 0) then
    (-1)
  else
    (isub .i64 left (((List.length a) : Nat) : Int))

theorem q_w_szRootKeyS (a : (List dRootKey)) (left : Int) : g_w_szRootKeyS a left = some (t_w_szRootKeyS a left) := by
  unfold g_w_szRootKeyS t_w_szRootKeyS; simp only [bif_some_some]


def g_w_szClip (a : dClip) (left : Int) : Option (Int) :=
  Option.bind (g_w_szKeySS a.2.2.1 left) fun y1 =>
  bif (ilt y1 0) then
    some (-1)
  else
    bif (ilt (t_w_szRootKeyS a.2.2.2.1 y1) 0) then
      some (-1)
    else
      some (t_w_szRootKeyS a.2.2.2.1 y1)


def L_w_szClipS_1 (rec' : ((List dClip) × Int × Int × Int × Unit) × (Unit) → Option (Bool × ((Int × Int × Unit) × (Unit)))) (x : ((List dClip) × Int × Int × Int × Unit) × (Unit)) : Option (Bool × ((Int × Int × Unit) × (Unit))) := match x with
  | ((a, left, t4, i, ()), (())) =>
    bif (ilt i (((List.length a) : Nat) : Int)) then
      Option.bind (ix i (List.length a)) fun j1 =>
      Option.bind (g_w_szClip (List.getD a j1 zClip) left) fun y2 =>
      bif (ilt y2 0) then
        some (true, ((y2, ((-1), ())), ()))
      else
        rec' ((a, (y2, (t4, ((iadd .i64 i 1), ())))), ())
    else
      some (false, ((left, (t4, ())), ()))

def g_w_szClipS (a : (List dClip)) (left : Int) : Option (Int) :=
  bif (ilt (isub .i64 left (((List.length a) : Nat) : Int)) 0) then
    some (-1)
  else
    Option.bind (iter L_w_szClipS_1 fuel ((a, ((isub .i64 left (((List.length a) : Nat) : Int)), (0, (0, ())))), ())) fun y1 =>
    bif y1.1 then
      some y1.2.1.2.1
    else
      some y1.2.1.1


def g_w_szStateS (a : (List dState)) (left : Int) : Option (Int) :=
  bif (ilt (isub .i64 left (((List.length a) : Nat) : Int)) 0) then
    some (-1)
  else
    some (isub .i64 left (((List.length a) : Nat) : Int))

def t_w_szStateS (a : (List dState)) (left : Int) : Int :=
  bif (ilt (isub .i64 left (((List.length a) : Nat) : Int)) 0) then
    (-1)
  else
    (isub .i64 left (((List.length a) : Nat) : Int))

theorem q_w_szStateS (a : (List dState)) (left : Int) : g_w_szStateS a left = some (t_w_szStateS a left) := by
  unfold g_w_szStateS t_w_szStateS; simp only [bif_some_some]


def g_w_szRuleS (a : (List dRule)) (left : Int) : Option (Int) :=
  bif (ilt (isub .i64 left (((List.length a) : Nat) : Int)) 0) then
    some (-1)
  else
    some (isub .i64 left (((List.length a) : Nat) : Int))

def t_w_szRuleS (a : (List dRule)) (left : Int) : Int :=
  bif (ilt (isub .i64 left (((List.length a) : Nat) : Int)) 0) then
    (-1)
  else
    (isub .i64 left (((List.length a) : Nat) : Int))

theorem q_w_szRuleS (a : (List dRule)) (left : Int) : g_w_szRuleS a left = some (t_w_szRuleS a left) := by
  unfold g_w_szRuleS t_w_szRuleS; simp only [bif_some_some]


def g_w_szMachine (a : dMachine) (left : Int) : Option (Int) :=
  Option.bind (g_w_szClipS a.1 left) fun y1 =>
  let e2 := (t_w_szRuleS a.2.2.1 (t_w_szStateS a.2.1 y1))
  bif (ilt y1 0) then
    some (-1)
  else
    bif (ilt (t_w_szStateS a.2.1 y1) 0) then
      some (-1)
    else
      bif (ilt e2 0) then
        some (-1)
      else
        some e2


def g_w_toTurn (a : dTurn) : Option (dTurn) :=
  some a

def t_w_toTurn (a : dTurn) : dTurn :=
  a

theorem q_w_toTurn (a : dTurn) : g_w_toTurn a = some (t_w_toTurn a) := rfl


def g_w_toKey (a : dKey) : Option (dKey) :=
  some (a.1, ((t_w_toTurn a.2.1), ()))

def t_w_toKey (a : dKey) : dKey :=
  (a.1, ((t_w_toTurn a.2.1), ()))

theorem q_w_toKey (a : dKey) : g_w_toKey a = some (t_w_toKey a) := rfl


def L_w_toKeyS_1 (rec' : ((List dKey) × Int × Unit) × ((List dKey) × Unit) → Option ((Unit) × ((List dKey) × Unit))) (x : ((List dKey) × Int × Unit) × ((List dKey) × Unit)) : Option ((Unit) × ((List dKey) × Unit)) := match x with
  | ((a, i, ()), (r0, ())) =>
    bif (ilt i (((List.length a) : Nat) : Int)) then
      Option.bind (ix i (List.length a)) fun j1 =>
      Option.bind (ix i (List.length r0)) fun j2 =>
      rec' ((a, ((iadd .i64 i 1), ())), ((List.set r0 j2 (t_w_toKey (List.getD a j1 zKey))), ()))
    else
      some ((), (r0, ()))

def g_w_toKeyS (a : (List dKey)) : Option ((List dKey)) :=
  bif (mkOk (((List.length a) : Nat) : Int) (((List.length a) : Nat) : Int)) then
    Option.bind (iter L_w_toKeyS_1 fuel ((a, (0, ())), ((List.replicate (List.length a) (0, ((0, (0, (0, (0, ())))), ()))), ()))) fun y1 =>
    some y1.2.1
  else
    none


def L_w_toKeySS_1 (rec' : ((List (List dKey)) × Int × Unit) × ((List (List dKey)) × Unit) → Option ((Unit) × ((List (List dKey)) × Unit))) (x : ((List (List dKey)) × Int × Unit) × ((List (List dKey)) × Unit)) : Option ((Unit) × ((List (List dKey)) × Unit)) := match x with
  | ((a, i, ()), (r0, ())) =>
    bif (ilt i (((List.length a) : Nat) : Int)) then
      Option.bind (ix i (List.length a)) fun j1 =>
      Option.bind (g_w_toKeyS (List.getD a j1 [])) fun y2 =>
      Option.bind (ix i (List.length r0)) fun j3 =>
      rec' ((a, ((iadd .i64 i 1), ())), ((List.set r0 j3 y2), ()))
    else
      some ((), (r0, ()))

def g_w_toKeySS (a : (List (List dKey))) : Option ((List (List dKey))) :=
  bif (mkOk (((List.length a) : Nat) : Int) (((List.length a) : Nat) : Int)) then
    Option.bind (iter L_w_toKeySS_1 fuel ((a, (0, ())), ((List.replicate (List.length a) ([] : List dKey)), ()))) fun y1 =>
    some y1.2.1
  else
    none


def g_w_toVector (a : dVec) : Option (dVec) :=
  some a

def t_w_toVector (a : dVec) : dVec :=
  a

theorem q_w_toVector (a : dVec) : g_w_toVector a = some (t_w_toVector a) := rfl


def g_w_toRootKey (a : dRootKey) : Option (dRootKey) :=
  some (a.1, ((t_w_toVector a.2.1), ()))

def t_w_toRootKey (a : dRootKey) : dRootKey :=
  (a.1, ((t_w_toVector a.2.1), ()))

theorem q_w_toRootKey (a : dRootKey) : g_w_toRootKey a = some (t_w_toRootKey a) := rfl


def L_w_toRootKeyS_1 (rec' : ((List dRootKey) × Int × Unit) × ((List dRootKey) × Unit) → Option ((Unit) × ((List dRootKey) × Unit))) (x : ((List dRootKey) × Int × Unit) × ((List dRootKey) × Unit)) : Option ((Unit) × ((List dRootKey) × Unit)) := match x with
  | ((a, i, ()), (r0, ())) =>
    bif (ilt i (((List.length a) : Nat) : Int)) then
      Option.bind (ix i (List.length a)) fun j1 =>
      Option.bind (ix i (List.length r0)) fun j2 =>
      rec' ((a, ((iadd .i64 i 1), ())), ((List.set r0 j2 (t_w_toRootKey (List.getD a j1 zRootKey))), ()))
    else
      some ((), (r0, ()))

def g_w_toRootKeyS (a : (List dRootKey)) : Option ((List dRootKey)) :=
  bif (mkOk (((List.length a) : Nat) : Int) (((List.length a) : Nat) : Int)) then
    Option.bind (iter L_w_toRootKeyS_1 fuel ((a, (0, ())), ((List.replicate (List.length a) (0, ((0, (0, (0, ()))), ()))), ()))) fun y1 =>
    some y1.2.1
  else
    none


def g_w_toClip (a : dClip) : Option (dClip) :=
  Option.bind (g_w_toKeySS a.2.2.1) fun y1 =>
  Option.bind (g_w_toRootKeyS a.2.2.2.1) fun y2 =>
  some (a.1, (a.2.1, (y1, (y2, ()))))


def L_w_toClipS_1 (rec' : ((List dClip) × Int × Unit) × ((List dClip) × Unit) → Option ((Unit) × ((List dClip) × Unit))) (x : ((List dClip) × Int × Unit) × ((List dClip) × Unit)) : Option ((Unit) × ((List dClip) × Unit)) := match x with
  | ((a, i, ()), (r0, ())) =>
    bif (ilt i (((List.length a) : Nat) : Int)) then
      Option.bind (ix i (List.length a)) fun j1 =>
      Option.bind (g_w_toClip (List.getD a j1 zClip)) fun y2 =>
      Option.bind (ix i (List.length r0)) fun j3 =>
      rec' ((a, ((iadd .i64 i 1), ())), ((List.set r0 j3 y2), ()))
    else
      some ((), (r0, ()))

def g_w_toClipS (a : (List dClip)) : Option ((List dClip)) :=
  bif (mkOk (((List.length a) : Nat) : Int) (((List.length a) : Nat) : Int)) then
    Option.bind (iter L_w_toClipS_1 fuel ((a, (0, ())), ((List.replicate (List.length a) (0, (0, (([] : List (List dKey)), (([] : List dRootKey), ()))))), ()))) fun y1 =>
    some y1.2.1
  else
    none


def g_w_toState (a : dState) : Option (dState) :=
  some a

def t_w_toState (a : dState) : dState :=
  a

theorem q_w_toState (a : dState) : g_w_toState a = some (t_w_toState a) := rfl


def L_w_toStateS_1 (rec' : ((List dState) × Int × Unit) × ((List dState) × Unit) → Option ((Unit) × ((List dState) × Unit))) (x : ((List dState) × Int × Unit) × ((List dState) × Unit)) : Option ((Unit) × ((List dState) × Unit)) := match x with
  | ((a, i, ()), (r0, ())) =>
    bif (ilt i (((List.length a) : Nat) : Int)) then
      Option.bind (ix i (List.length a)) fun j1 =>
      Option.bind (ix i (List.length r0)) fun j2 =>
      rec' ((a, ((iadd .i64 i 1), ())), ((List.set r0 j2 (t_w_toState (List.getD a j1 zState))), ()))
    else
      some ((), (r0, ()))

def g_w_toStateS (a : (List dState)) : Option ((List dState)) :=
  bif (mkOk (((List.length a) : Nat) : Int) (((List.length a) : Nat) : Int)) then
    Option.bind (iter L_w_toStateS_1 fuel ((a, (0, ())), ((List.replicate (List.length a) (0, (0, (false, ())))), ()))) fun y1 =>
    some y1.2.1
  else
    none


def g_w_toRule (a : dRule) : Option (dRule) :=
  some a

def t_w_toRule (a : dRule) : dRule :=
  a

theorem q_w_toRule (a : dRule) : g_w_toRule a = some (t_w_toRule a) := rfl


def L_w_toRuleS_1 (rec' : ((List dRule) × Int × Unit) × ((List dRule) × Unit) → Option ((Unit) × ((List dRule) × Unit))) (x : ((List dRule) × Int × Unit) × ((List dRule) × Unit)) : Option ((Unit) × ((List dRule) × Unit)) := match x with
  | ((a, i, ()), (r0, ())) =>
    bif (ilt i (((List.length a) : Nat) : Int)) then
      Option.bind (ix i (List.length a)) fun j1 =>
      Option.bind (ix i (List.length r0)) fun j2 =>
      rec' ((a, ((iadd .i64 i 1), ())), ((List.set r0 j2 (t_w_toRule (List.getD a j1 zRule))), ()))
    else
      some ((), (r0, ()))

def g_w_toRuleS (a : (List dRule)) : Option ((List dRule)) :=
  bif (mkOk (((List.length a) : Nat) : Int) (((List.length a) : Nat) : Int)) then
    Option.bind (iter L_w_toRuleS_1 fuel ((a, (0, ())), ((List.replicate (List.length a) (0, (0, (0, (0, (0, (0, ()))))))), ()))) fun y1 =>
    some y1.2.1
  else
    none


def g_w_toMachine (a : dMachine) : Option (dMachine) :=
  Option.bind (g_w_toClipS a.1) fun y1 =>
  Option.bind (g_w_toStateS a.2.1) fun y2 =>
  Option.bind (g_w_toRuleS a.2.2.1) fun y3 =>
  some (y1, (y2, (y3, ())))


def g_w_toRun (a : dRun) : Option (dRun) :=
  some a

def t_w_toRun (a : dRun) : dRun :=
  a

theorem q_w_toRun (a : dRun) : g_w_toRun a = some (t_w_toRun a) := rfl


def g_s_l00In (n : Int) (low : Int) (high : Int) : Option (Bool) :=
  bif (ile low n) then
    some (ile n high)
  else
    some false

def t_s_l00In (n : Int) (low : Int) (high : Int) : Bool :=
  bif (ile low n) then
    (ile n high)
  else
    false

theorem q_s_l00In (n : Int) (low : Int) (high : Int) : g_s_l00In n low high = some (t_s_l00In n low high) := by
  unfold g_s_l00In t_s_l00In; simp only [bif_some_some]


def L_s_l05At_1 (rec' : ((List dKey) × Int × Int × Unit) × ((List Int) × Unit) → Option ((Unit) × ((List Int) × Unit))) (x : ((List dKey) × Int × Int × Unit) × ((List Int) × Unit)) : Option ((Unit) × ((List Int) × Unit)) := match x with
  | ((track, t7, t8, ()), (r0, ())) =>
    bif (ilt t8 t7) then
      Option.bind (ix t8 (List.length track)) fun j1 =>
      bif (Nat.ble ((List.length r0) + 1) 4294967296) then
        rec' ((track, (t7, ((iadd .i64 t8 1), ()))), ((r0 ++ [(List.getD track j1 zKey).1]), ()))
      else
        none
    else
      some ((), (r0, ()))

def g_s_l05At (track : (List dKey)) : Option ((List Int)) :=
  Option.bind (iter L_s_l05At_1 fuel ((track, ((((List.length track) : Nat) : Int), (0, ()))), ([], ()))) fun y1 =>
  some y1.2.1


def L_s_l05Times_1 (rec' : ((List Int) × Int × Bool × Int × Int × Unit) × (Unit) → Option (Bool × (((List Int) × Bool × Unit) × (Unit)))) (x : ((List Int) × Int × Bool × Int × Int × Unit) × (Unit)) : Option (Bool × (((List Int) × Bool × Unit) × (Unit))) := match x with
  | ((list, length, t4, t7, t8, ()), (())) =>
    let e1 := (true, ((list, (false, ())), ()))
    let e2 := ((list, (length, (t4, (t7, ((iadd .i64 t8 1), ()))))), ())
    bif (ilt t8 t7) then
      Option.bind (ix t8 (List.length list)) fun j3 =>
      bif (!(t_s_l00In (List.getD list j3 (0 : Int)) 0 length)) then
        some e1
      else
        bif (ilt 0 t8) then
          Option.bind (ix (isub .i64 t8 1) (List.length list)) fun j4 =>
          Option.bind (ix t8 (List.length list)) fun j5 =>
          bif (ile (List.getD list j5 (0 : Int)) (List.getD list j4 (0 : Int))) then
            some e1
          else
            rec' e2
        else
          rec' e2
    else
      some (false, ((list, (t4, ())), ()))

def g_s_l05Times (list : (List Int)) (length : Int) : Option (Bool) :=
  Option.bind (iter L_s_l05Times_1 fuel ((list, (length, (false, ((((List.length list) : Nat) : Int), (0, ()))))), ())) fun y1 =>
  bif y1.1 then
    some y1.2.1.2.1
  else
    bif (ile 1 (((List.length y1.2.1.1) : Nat) : Int)) then
      some (ile (((List.length y1.2.1.1) : Nat) : Int) 12)
    else
      some false


def L_s_l05RootAt_1 (rec' : ((List dRootKey) × Int × Int × Unit) × ((List Int) × Unit) → Option ((Unit) × ((List Int) × Unit))) (x : ((List dRootKey) × Int × Int × Unit) × ((List Int) × Unit)) : Option ((Unit) × ((List Int) × Unit)) := match x with
  | ((roots, t7, t8, ()), (r0, ())) =>
    bif (ilt t8 t7) then
      Option.bind (ix t8 (List.length roots)) fun j1 =>
      bif (Nat.ble ((List.length r0) + 1) 4294967296) then
        rec' ((roots, (t7, ((iadd .i64 t8 1), ()))), ((r0 ++ [(List.getD roots j1 zRootKey).1]), ()))
      else
        none
    else
      some ((), (r0, ()))

def g_s_l05RootAt (roots : (List dRootKey)) : Option ((List Int)) :=
  Option.bind (iter L_s_l05RootAt_1 fuel ((roots, ((((List.length roots) : Nat) : Int), (0, ()))), ([], ()))) fun y1 =>
  some y1.2.1


def L_s_l05Is_1 (rec' : (dClip × Bool × Int × Int × Unit) × (Unit) → Option (Bool × ((dClip × Bool × Unit) × (Unit)))) (x : (dClip × Bool × Int × Int × Unit) × (Unit)) : Option (Bool × ((dClip × Bool × Unit) × (Unit))) := match x with
  | ((c, t2, t38, t39, ()), (())) =>
    bif (ilt t39 t38) then
      Option.bind (ix t39 (List.length c.2.2.1)) fun j1 =>
      Option.bind (g_s_l05At (List.getD c.2.2.1 j1 [])) fun y2 =>
      Option.bind (g_s_l05Times y2 c.1) fun y3 =>
      bif (!y3) then
        some (true, ((c, (false, ())), ()))
      else
        rec' ((c, (t2, (t38, ((iadd .i64 t39 1), ())))), ())
    else
      some (false, ((c, (t2, ())), ()))

def g_s_l05Is (c : dClip) : Option (Bool) :=
  bif (!(t_s_l00In c.1 1 1000)) then
    some false
  else
    bif (!(t_s_l00In c.2.1 0 2)) then
      some false
    else
      bif (ilt (((List.length c.2.2.1) : Nat) : Int) 1) then
        some false
      else
        bif (ilt 12 (((List.length c.2.2.1) : Nat) : Int)) then
          some false
        else
          Option.bind (iter L_s_l05Is_1 fuel ((c, (false, ((((List.length c.2.2.1) : Nat) : Int), (0, ())))), ())) fun y1 =>
          bif y1.1 then
            some y1.2.1.2.1
          else
            Option.bind (g_s_l05RootAt y1.2.1.1.2.2.2.1) fun y2 =>
            Option.bind (g_s_l05Times y2 y1.2.1.1.1) fun y3 =>
            some y3


def L_s_l07Is_3 (rec' : (dMachine × Bool × Int × Int × Int × Unit) × (Unit) → Option (Bool × ((Bool × Unit) × (Unit)))) (x : (dMachine × Bool × Int × Int × Int × Unit) × (Unit)) : Option (Bool × ((Bool × Unit) × (Unit))) := match x with
  | ((m, t2, states, t109, t110, ()), (())) =>
    bif (ilt t110 t109) then
      Option.bind (ix t110 (List.length m.2.2.1)) fun j1 =>
      bif (!(t_s_l00In (List.getD m.2.2.1 j1 zRule).1 (-1) (isub .i64 states 1))) then
        some (true, ((false, ()), ()))
      else
        bif (!(t_s_l00In (List.getD m.2.2.1 j1 zRule).2.1 0 (isub .i64 states 1))) then
          some (true, ((false, ()), ()))
        else
          bif (ieq (List.getD m.2.2.1 j1 zRule).1 (List.getD m.2.2.1 j1 zRule).2.1) then
            some (true, ((false, ()), ()))
          else
            bif (!(t_s_l00In (List.getD m.2.2.1 j1 zRule).2.2.1 0 3)) then
              some (true, ((false, ()), ()))
            else
              bif (!(t_s_l00In (List.getD m.2.2.1 j1 zRule).2.2.2.1 0 3)) then
                some (true, ((false, ()), ()))
              else
                bif (!(t_s_l00In (List.getD m.2.2.1 j1 zRule).2.2.2.2.2.1 0 100)) then
                  some (true, ((false, ()), ()))
                else
                  rec' ((m, (t2, (states, (t109, ((iadd .i64 t110 1), ()))))), ())
    else
      some (false, ((t2, ()), ()))

def L_s_l07Is_2 (rec' : (dMachine × Bool × Int × Int × Int × Int × Unit) × (Unit) → Option (Bool × ((dMachine × Bool × Int × Unit) × (Unit)))) (x : (dMachine × Bool × Int × Int × Int × Int × Unit) × (Unit)) : Option (Bool × ((dMachine × Bool × Int × Unit) × (Unit))) := match x with
  | ((m, t2, clips, states, t76, t77, ()), (())) =>
    let e1 := (true, ((m, (false, (states, ()))), ()))
    bif (ilt t77 t76) then
      Option.bind (ix t77 (List.length m.2.1)) fun j2 =>
      bif (!(t_s_l00In (List.getD m.2.1 j2 zState).1 0 (isub .i64 clips 1))) then
        some e1
      else
        Option.bind (ix t77 (List.length m.2.1)) fun j3 =>
        bif (!(t_s_l00In (List.getD m.2.1 j3 zState).2.1 1 8)) then
          some e1
        else
          rec' ((m, (t2, (clips, (states, (t76, ((iadd .i64 t77 1), ())))))), ())
    else
      some (false, ((m, (t2, (states, ()))), ()))

def L_s_l07Is_1 (rec' : (dMachine × Bool × Int × Int × Int × Int × Unit) × (Unit) → Option (Bool × ((dMachine × Bool × Int × Int × Unit) × (Unit)))) (x : (dMachine × Bool × Int × Int × Int × Int × Unit) × (Unit)) : Option (Bool × ((dMachine × Bool × Int × Int × Unit) × (Unit))) := match x with
  | ((m, t2, clips, states, t39, t40, ()), (())) =>
    let e1 := (true, ((m, (false, (clips, (states, ())))), ()))
    bif (ilt t40 t39) then
      Option.bind (ix t40 (List.length m.1)) fun j2 =>
      Option.bind (g_s_l05Is (List.getD m.1 j2 zClip)) fun y3 =>
      bif (!y3) then
        some e1
      else
        Option.bind (ix t40 (List.length m.1)) fun j4 =>
        Option.bind (ix 0 (List.length m.1)) fun j5 =>
        bif (!(ieq (((List.length (List.getD m.1 j4 zClip).2.2.1) : Nat) : Int) (((List.length (List.getD m.1 j5 zClip).2.2.1) : Nat) : Int))) then
          some e1
        else
          rec' ((m, (t2, (clips, (states, (t39, ((iadd .i64 t40 1), ())))))), ())
    else
      some (false, ((m, (t2, (clips, (states, ())))), ()))

def g_s_l07Is (m : dMachine) : Option (Bool) :=
  bif (!(t_s_l00In (((List.length m.1) : Nat) : Int) 1 6)) then
    some false
  else
    bif (!(t_s_l00In (((List.length m.2.1) : Nat) : Int) 1 8)) then
      some false
    else
      bif (ilt 16 (((List.length m.2.2.1) : Nat) : Int)) then
        some false
      else
        Option.bind (iter L_s_l07Is_1 fuel ((m, (false, ((((List.length m.1) : Nat) : Int), ((((List.length m.2.1) : Nat) : Int), ((((List.length m.1) : Nat) : Int), (0, ())))))), ())) fun y1 =>
        bif y1.1 then
          some y1.2.1.2.1
        else
          Option.bind (iter L_s_l07Is_2 fuel ((y1.2.1.1, (y1.2.1.2.1, (y1.2.1.2.2.1, (y1.2.1.2.2.2.1, ((((List.length y1.2.1.1.2.1) : Nat) : Int), (0, ())))))), ())) fun y2 =>
          bif y2.1 then
            some y2.2.1.2.1
          else
            Option.bind (iter L_s_l07Is_3 fuel ((y2.2.1.1, (y2.2.1.2.1, (y2.2.1.2.2.1, ((((List.length y2.2.1.1.2.2.1) : Nat) : Int), (0, ()))))), ())) fun y3 =>
            bif y3.1 then
              some y3.2.1.1
            else
              some true


def g_s_l07Length (m : dMachine) (state : Int) : Option (Int) :=
  Option.bind (ix state (List.length m.2.1)) fun j1 =>
  Option.bind (ix (List.getD m.2.1 j1 zState).1 (List.length m.1)) fun j2 =>
  some (List.getD m.1 j2 zClip).1


def g_s_l07Time (m : dMachine) (state : Int) (time : Int) : Option (Bool) :=
  Option.bind (g_s_l07Length m state) fun y1 =>
  Option.bind (ix state (List.length m.2.1)) fun j2 =>
  bif (List.getD m.2.1 j2 zState).2.2.1 then
    some (t_s_l00In time 0 (isub .i64 y1 1))
  else
    some (t_s_l00In time 0 y1)


def g_s_l07Run (m : dMachine) (r : dRun) : Option (Bool) :=
  bif (!(t_s_l00In r.1 0 (isub .i64 (((List.length m.2.1) : Nat) : Int) 1))) then
    some false
  else
    Option.bind (g_s_l07Time m r.1 r.2.1) fun y1 =>
    bif (!y1) then
      some false
    else
      bif (ieq r.2.2.1 (-1)) then
        bif (ieq r.2.2.2.1 0) then
          bif (ieq r.2.2.2.2.1 0) then
            some (ieq r.2.2.2.2.2.1 0)
          else
            some false
        else
          some false
      else
        bif (t_s_l00In r.2.2.1 0 (isub .i64 (((List.length m.2.1) : Nat) : Int) 1)) then
          Option.bind (g_s_l07Time m r.2.2.1 r.2.2.2.1) fun y2 =>
          bif y2 then
            bif (t_s_l00In r.2.2.2.2.1 1 100) then
              some (t_s_l00In r.2.2.2.2.2.1 0 (isub .i64 r.2.2.2.2.1 1))
            else
              some false
          else
            some false
        else
          some false


def L_s_l01Dec_1 (rec' : (Int × Int × Unit) × ((List Int) × Unit) → Option ((Int × Unit) × ((List Int) × Unit))) (x : (Int × Int × Unit) × ((List Int) × Unit)) : Option ((Int × Unit) × ((List Int) × Unit)) := match x with
  | ((n, rest, ()), (r0, ())) =>
    let e1 := ((n, ((iquo .i64 rest 10), ())), (([(iconv .u8 (iadd .i64 48 (irem .i64 rest 10)))] ++ r0), ()))
    let e2 := ((n, ((iquo .i64 rest 10), ())), (([(iconv .u8 (iadd .i64 48 (isub .i64 0 (irem .i64 rest 10))))] ++ r0), ()))
    bif (ieq (((List.length r0) : Nat) : Int) 0) then
      bif (ilt (irem .i64 rest 10) 0) then
        bif (Nat.ble (1 + (List.length r0)) 4294967296) then
          rec' e2
        else
          none
      else
        bif (Nat.ble (1 + (List.length r0)) 4294967296) then
          rec' e1
        else
          none
    else
      bif (!(ieq rest 0)) then
        bif (ilt (irem .i64 rest 10) 0) then
          bif (Nat.ble (1 + (List.length r0)) 4294967296) then
            rec' e2
          else
            none
        else
          bif (Nat.ble (1 + (List.length r0)) 4294967296) then
            rec' e1
          else
            none
      else
        some ((n, ()), (r0, ()))

def g_s_l01Dec (n : Int) : Option (ByteArray) :=
  Option.bind (iter L_s_l01Dec_1 fuel ((n, (n, ())), ([], ()))) fun y1 =>
  bif (ilt y1.1.1 0) then
    bif (Nat.ble (1 + (List.length y1.2.1)) 4294967296) then
      some (strOf ([45] ++ y1.2.1))
    else
      none
  else
    some (strOf y1.2.1)


def L_s_l01Text_1 (rec' : ((List Int) × ByteArray × Int × Unit) × (Unit) → Option ((ByteArray × Unit) × (Unit))) (x : ((List Int) × ByteArray × Int × Unit) × (Unit)) : Option ((ByteArray × Unit) × (Unit)) := match x with
  | ((list, out, i, ()), (())) =>
    bif (ilt i (((List.length list) : Nat) : Int)) then
      Option.bind (ix i (List.length list)) fun j1 =>
      Option.bind (g_s_l01Dec (List.getD list j1 (0 : Int))) fun y2 =>
      bif (Nat.ble ((ByteArray.size (ByteArray.mk #[44])) + (ByteArray.size y2)) 4294967296) then
        bif (Nat.ble ((ByteArray.size out) + (ByteArray.size ((ByteArray.mk #[44]) ++ y2))) 4294967296) then
          rec' ((list, ((out ++ ((ByteArray.mk #[44]) ++ y2)), ((iadd .i64 i 1), ()))), ())
        else
          none
      else
        none
    else
      some ((out, ()), ())

def g_s_l01Text (list : (List Int)) : Option (ByteArray) :=
  bif (ieq (((List.length list) : Nat) : Int) 0) then
    some (ByteArray.mk #[110, 111, 110, 101])
  else
    Option.bind (ix 0 (List.length list)) fun j1 =>
    Option.bind (g_s_l01Dec (List.getD list j1 (0 : Int))) fun y2 =>
    Option.bind (iter L_s_l01Text_1 fuel ((list, (y2, (1, ()))), ())) fun y3 =>
    some y3.1.1


def g_s_l07Text (r : dRun) : Option (ByteArray) :=
  Option.bind (g_s_l01Text [r.1, r.2.1, r.2.2.1, r.2.2.2.1, r.2.2.2.2.1, r.2.2.2.2.2.1]) fun y1 =>
  some y1


def g_s_StateText (m : dMachine) (r : dRun) : Option ((ByteArray × (Bool × Unit))) :=
  Option.bind (g_s_l07Is m) fun y1 =>
  bif (!y1) then
    some ((ByteArray.mk #[]), (false, ()))
  else
    Option.bind (g_s_l07Run m r) fun y2 =>
    bif (!y2) then
      some ((ByteArray.mk #[]), (false, ()))
    else
      Option.bind (g_s_l07Text r) fun y3 =>
      some (y3, (true, ()))


def g_i_turnTrack  : Option ((Unit × (Unit × (Unit × Unit)))) :=
  some ((), ((), ((), ())))

def t_i_turnTrack  : (Unit × (Unit × (Unit × Unit))) :=
  ((), ((), ((), ())))

theorem q_i_turnTrack  : g_i_turnTrack  = some (t_i_turnTrack ) := rfl


def g_i_turnTrack_1 (k : dKey) : Option (Int) :=
  some k.1

def t_i_turnTrack_1 (k : dKey) : Int :=
  k.1

theorem q_i_turnTrack_1 (k : dKey) : g_i_turnTrack_1 k = some (t_i_turnTrack_1 k) := rfl


def L_i_track_i_Key_valid_1 (rec' : ((List dKey) × Int × Bool × Int × (List dKey) × Int × Int × Unit) × (((Unit × (Unit × (Unit × Unit))) × Unit) × Unit) → Option (Bool × (((List dKey) × Bool × Unit) × (Unit)))) (x : ((List dKey) × Int × Bool × Int × (List dKey) × Int × Int × Unit) × (((Unit × (Unit × (Unit × Unit))) × Unit) × Unit)) : Option (Bool × (((List dKey) × Bool × Unit) × (Unit))) := match x with
  | ((keys, length, t6, last, t11, t12, t13, ()), ((b0, ()), ())) =>
    let e1 := (true, ((keys, (false, ())), ()))
    bif (ilt t13 t12) then
      Option.bind (ix t13 (List.length t11)) fun j2 =>
      bif (ile (t_i_turnTrack_1 (List.getD t11 j2 zKey)) last) then
        some e1
      else
        bif (ilt length (t_i_turnTrack_1 (List.getD t11 j2 zKey))) then
          some e1
        else
          rec' ((keys, (length, (t6, ((t_i_turnTrack_1 (List.getD t11 j2 zKey)), (t11, (t12, ((iadd .i64 t13 1), ()))))))), ((((), ((), ((), ()))), ()), ()))
    else
      some (false, ((keys, (t6, ())), ()))

def g_i_track_i_Key_valid (t : (Unit × (Unit × (Unit × Unit)))) (keys : (List dKey)) (length : Int) : Option (Bool) :=
  Option.bind (iter L_i_track_i_Key_valid_1 fuel ((keys, (length, (false, ((-1), (keys, ((((List.length keys) : Nat) : Int), (0, ()))))))), ((((), ((), ((), ()))), ()), ()))) fun y1 =>
  bif y1.1 then
    some y1.2.1.2.1
  else
    bif (ile 1 (((List.length y1.2.1.1) : Nat) : Int)) then
      some (ile (((List.length y1.2.1.1) : Nat) : Int) 12)
    else
      some false


def g_i_rootTrack  : Option ((Unit × (Unit × (Unit × Unit)))) :=
  some ((), ((), ((), ())))

def t_i_rootTrack  : (Unit × (Unit × (Unit × Unit))) :=
  ((), ((), ((), ())))

theorem q_i_rootTrack  : g_i_rootTrack  = some (t_i_rootTrack ) := rfl


def g_i_rootTrack_1 (k : dRootKey) : Option (Int) :=
  some k.1

def t_i_rootTrack_1 (k : dRootKey) : Int :=
  k.1

theorem q_i_rootTrack_1 (k : dRootKey) : g_i_rootTrack_1 k = some (t_i_rootTrack_1 k) := rfl


def L_i_track_i_RootKey_valid_1 (rec' : ((List dRootKey) × Int × Bool × Int × (List dRootKey) × Int × Int × Unit) × (((Unit × (Unit × (Unit × Unit))) × Unit) × Unit) → Option (Bool × (((List dRootKey) × Bool × Unit) × (Unit)))) (x : ((List dRootKey) × Int × Bool × Int × (List dRootKey) × Int × Int × Unit) × (((Unit × (Unit × (Unit × Unit))) × Unit) × Unit)) : Option (Bool × (((List dRootKey) × Bool × Unit) × (Unit))) := match x with
  | ((keys, length, t6, last, t11, t12, t13, ()), ((b0, ()), ())) =>
    let e1 := (true, ((keys, (false, ())), ()))
    bif (ilt t13 t12) then
      Option.bind (ix t13 (List.length t11)) fun j2 =>
      bif (ile (t_i_rootTrack_1 (List.getD t11 j2 zRootKey)) last) then
        some e1
      else
        bif (ilt length (t_i_rootTrack_1 (List.getD t11 j2 zRootKey))) then
          some e1
        else
          rec' ((keys, (length, (t6, ((t_i_rootTrack_1 (List.getD t11 j2 zRootKey)), (t11, (t12, ((iadd .i64 t13 1), ()))))))), ((((), ((), ((), ()))), ()), ()))
    else
      some (false, ((keys, (t6, ())), ()))

def g_i_track_i_RootKey_valid (t : (Unit × (Unit × (Unit × Unit)))) (keys : (List dRootKey)) (length : Int) : Option (Bool) :=
  Option.bind (iter L_i_track_i_RootKey_valid_1 fuel ((keys, (length, (false, ((-1), (keys, ((((List.length keys) : Nat) : Int), (0, ()))))))), ((((), ((), ((), ()))), ()), ()))) fun y1 =>
  bif y1.1 then
    some y1.2.1.2.1
  else
    bif (ile 1 (((List.length y1.2.1.1) : Nat) : Int)) then
      some (ile (((List.length y1.2.1.1) : Nat) : Int) 12)
    else
      some false


def L_i_ValidClip_1 (rec' : (Bool × (List (List dKey)) × Int × Int × Unit) × ((dClip × Unit) × Unit) → Option (Bool × ((Bool × Unit) × ((dClip × Unit) × Unit)))) (x : (Bool × (List (List dKey)) × Int × Int × Unit) × ((dClip × Unit) × Unit)) : Option (Bool × ((Bool × Unit) × ((dClip × Unit) × Unit))) := match x with
  | ((t2, t36, t37, t38, ()), ((b0, ()), ())) =>
    bif (ilt t38 t37) then
      Option.bind (ix t38 (List.length t36)) fun j1 =>
      Option.bind (g_i_track_i_Key_valid ((), ((), ((), ()))) (List.getD t36 j1 []) b0.1) fun y2 =>
      bif (!y2) then
        some (true, ((false, ()), ((b0, ()), ())))
      else
        rec' ((t2, (t36, (t37, ((iadd .i64 t38 1), ())))), ((b0, ()), ()))
    else
      some (false, ((t2, ()), ((b0, ()), ())))

def g_i_ValidClip (c : dClip) : Option (Bool) :=
  bif (ilt c.1 1) then
    some false
  else
    bif (ilt 1000 c.1) then
      some false
    else
      bif (ilt c.2.1 0) then
        some false
      else
        bif (ilt 2 c.2.1) then
          some false
        else
          bif (ilt (((List.length c.2.2.1) : Nat) : Int) 1) then
            some false
          else
            bif (ilt 12 (((List.length c.2.2.1) : Nat) : Int)) then
              some false
            else
              Option.bind (iter L_i_ValidClip_1 fuel ((false, (c.2.2.1, ((((List.length c.2.2.1) : Nat) : Int), (0, ())))), ((c, ()), ()))) fun y1 =>
              bif y1.1 then
                some y1.2.1.1
              else
                Option.bind (g_i_track_i_RootKey_valid ((), ((), ((), ()))) y1.2.2.1.1.2.2.2.1 y1.2.2.1.1.1) fun y2 =>
                some y2


def g_i_areClips_1 (c : dClip) (p1 : (List dClip)) : Option (Bool) :=
  Option.bind (g_i_ValidClip c) fun y1 =>
  bif (!y1) then
    some true
  else
    Option.bind (ix 0 (List.length p1)) fun j2 =>
    some (!(ieq (((List.length c.2.2.1) : Nat) : Int) (((List.length (List.getD p1 j2 zClip).2.2.1) : Nat) : Int)))


def L_slices_IndexFunc_i_Clip_i_Clip_1 (rec' : ((List dClip) × ((List dClip) × Unit) × Int × Int × Int × Unit) × (Unit) → Option (Bool × ((Int × Unit) × (Unit)))) (x : ((List dClip) × ((List dClip) × Unit) × Int × Int × Int × Unit) × (Unit)) : Option (Bool × ((Int × Unit) × (Unit))) := match x with
  | ((s, f, t4, t7, t8, ()), (())) =>
    bif (ilt t8 t7) then
      Option.bind (ix t8 (List.length s)) fun j1 =>
      Option.bind (g_i_areClips_1 (List.getD s j1 zClip) f.1) fun y2 =>
      bif y2 then
        some (true, ((t8, ()), ()))
      else
        rec' ((s, (f, (t4, (t7, ((iadd .i64 t8 1), ()))))), ())
    else
      some (false, ((t4, ()), ()))

def g_slices_IndexFunc_i_Clip_i_Clip (s : (List dClip)) (f : ((List dClip) × Unit)) : Option (Int) :=
  Option.bind (iter L_slices_IndexFunc_i_Clip_i_Clip_1 fuel ((s, (f, (0, ((((List.length s) : Nat) : Int), (0, ()))))), ())) fun y1 =>
  bif y1.1 then
    some y1.2.1.1
  else
    some (-1)


def g_slices_ContainsFunc_i_Clip_i_Clip (s : (List dClip)) (f : ((List dClip) × Unit)) : Option (Bool) :=
  Option.bind (g_slices_IndexFunc_i_Clip_i_Clip s f) fun y1 =>
  some (ile 0 y1)


def g_i_areClips (clips : (List dClip)) : Option (Bool) :=
  bif (ilt (((List.length clips) : Nat) : Int) 1) then
    some false
  else
    bif (ilt 6 (((List.length clips) : Nat) : Int)) then
      some false
    else
      Option.bind (g_slices_ContainsFunc_i_Clip_i_Clip clips (clips, ())) fun y1 =>
      some (!y1)


def g_i_ValidMachine_1 (r : dRule) (p1 : Int) : Option (Bool) :=
  bif (ilt r.1 (-1)) then
    some true
  else
    bif (ile p1 r.1) then
      some true
    else
      bif (ilt r.2.1 0) then
        some true
      else
        bif (ile p1 r.2.1) then
          some true
        else
          bif (ieq r.1 r.2.1) then
            some true
          else
            bif (ilt r.2.2.1 0) then
              some true
            else
              bif (ilt 3 r.2.2.1) then
                some true
              else
                bif (ilt r.2.2.2.1 0) then
                  some true
                else
                  bif (ile 4 r.2.2.2.1) then
                    some true
                  else
                    bif (ilt r.2.2.2.2.2.1 0) then
                      some true
                    else
                      some (ilt 100 r.2.2.2.2.2.1)

def t_i_ValidMachine_1 (r : dRule) (p1 : Int) : Bool :=
  bif (ilt r.1 (-1)) then
    true
  else
    bif (ile p1 r.1) then
      true
    else
      bif (ilt r.2.1 0) then
        true
      else
        bif (ile p1 r.2.1) then
          true
        else
          bif (ieq r.1 r.2.1) then
            true
          else
            bif (ilt r.2.2.1 0) then
              true
            else
              bif (ilt 3 r.2.2.1) then
                true
              else
                bif (ilt r.2.2.2.1 0) then
                  true
                else
                  bif (ile 4 r.2.2.2.1) then
                    true
                  else
                    bif (ilt r.2.2.2.2.2.1 0) then
                      true
                    else
                      (ilt 100 r.2.2.2.2.2.1)

theorem q_i_ValidMachine_1 (r : dRule) (p1 : Int) : g_i_ValidMachine_1 r p1 = some (t_i_ValidMachine_1 r p1) := by
  unfold g_i_ValidMachine_1 t_i_ValidMachine_1; simp only [bif_some_some]


def L_slices_IndexFunc_i_Rule_i_Rule_1 (rec' : ((List dRule) × (Int × Unit) × Int × Int × Int × Unit) × (Unit) → Option (Bool × ((Int × Unit) × (Unit)))) (x : ((List dRule) × (Int × Unit) × Int × Int × Int × Unit) × (Unit)) : Option (Bool × ((Int × Unit) × (Unit))) := match x with
  | ((s, f, t4, t7, t8, ()), (())) =>
    bif (ilt t8 t7) then
      Option.bind (ix t8 (List.length s)) fun j1 =>
      bif (t_i_ValidMachine_1 (List.getD s j1 zRule) f.1) then
        some (true, ((t8, ()), ()))
      else
        rec' ((s, (f, (t4, (t7, ((iadd .i64 t8 1), ()))))), ())
    else
      some (false, ((t4, ()), ()))

def g_slices_IndexFunc_i_Rule_i_Rule (s : (List dRule)) (f : (Int × Unit)) : Option (Int) :=
  Option.bind (iter L_slices_IndexFunc_i_Rule_i_Rule_1 fuel ((s, (f, (0, ((((List.length s) : Nat) : Int), (0, ()))))), ())) fun y1 =>
  bif y1.1 then
    some y1.2.1.1
  else
    some (-1)


def g_slices_ContainsFunc_i_Rule_i_Rule (s : (List dRule)) (f : (Int × Unit)) : Option (Bool) :=
  Option.bind (g_slices_IndexFunc_i_Rule_i_Rule s f) fun y1 =>
  some (ile 0 y1)


def L_i_ValidMachine_1 (rec' : (Bool × (List dState) × Int × Int × Unit) × ((dMachine × Unit) × Unit) → Option (Bool × ((Bool × Unit) × ((dMachine × Unit) × Unit)))) (x : (Bool × (List dState) × Int × Int × Unit) × ((dMachine × Unit) × Unit)) : Option (Bool × ((Bool × Unit) × ((dMachine × Unit) × Unit))) := match x with
  | ((t2, t29, t30, t31, ()), ((b0, ()), ())) =>
    let e1 := (true, ((false, ()), ((b0, ()), ())))
    bif (ilt t31 t30) then
      Option.bind (ix t31 (List.length t29)) fun j2 =>
      bif (ilt (List.getD t29 j2 zState).1 0) then
        some e1
      else
        bif (ile (((List.length b0.1) : Nat) : Int) (List.getD t29 j2 zState).1) then
          some e1
        else
          bif (ilt (List.getD t29 j2 zState).2.1 1) then
            some e1
          else
            bif (ilt 8 (List.getD t29 j2 zState).2.1) then
              some e1
            else
              rec' ((t2, (t29, (t30, ((iadd .i64 t31 1), ())))), ((b0, ()), ()))
    else
      some (false, ((t2, ()), ((b0, ()), ())))

def g_i_ValidMachine (m : dMachine) : Option (Bool) :=
  Option.bind (g_i_areClips m.1) fun y1 =>
  bif (!y1) then
    some false
  else
    bif (ilt (((List.length m.2.1) : Nat) : Int) 1) then
      some false
    else
      bif (ilt 8 (((List.length m.2.1) : Nat) : Int)) then
        some false
      else
        bif (ilt 16 (((List.length m.2.2.1) : Nat) : Int)) then
          some false
        else
          Option.bind (iter L_i_ValidMachine_1 fuel ((false, (m.2.1, ((((List.length m.2.1) : Nat) : Int), (0, ())))), ((m, ()), ()))) fun y2 =>
          bif y2.1 then
            some y2.2.1.1
          else
            Option.bind (g_slices_ContainsFunc_i_Rule_i_Rule y2.2.2.1.1.2.2.1 ((((List.length y2.2.2.1.1.2.1) : Nat) : Int), ())) fun y3 =>
            some (!y3)


def g_i_Machine_length (m : dMachine) (state : Int) : Option (Int) :=
  Option.bind (ix state (List.length m.2.1)) fun j1 =>
  Option.bind (ix (List.getD m.2.1 j1 zState).1 (List.length m.1)) fun j2 =>
  some (List.getD m.1 j2 zClip).1


def g_i_Machine_isTime (m : dMachine) (state : Int) (atx : Int) : Option (Bool) :=
  bif (ilt state 0) then
    some false
  else
    bif (ile (((List.length m.2.1) : Nat) : Int) state) then
      some false
    else
      bif (ilt atx 0) then
        some false
      else
        Option.bind (g_i_Machine_length m state) fun y1 =>
        bif (ilt atx y1) then
          some true
        else
          Option.bind (g_i_Machine_length m state) fun y2 =>
          bif (ieq atx y2) then
            Option.bind (ix state (List.length m.2.1)) fun j3 =>
            some (!(List.getD m.2.1 j3 zState).2.2.1)
          else
            some false


def g_i_IsRun (m : dMachine) (r : dRun) : Option (Bool) :=
  Option.bind (g_i_ValidMachine m) fun y1 =>
  bif (!y1) then
    some false
  else
    Option.bind (g_i_Machine_isTime m r.1 r.2.1) fun y2 =>
    bif (!y2) then
      some false
    else
      bif (ieq r.2.2.1 (-1)) then
        bif (ieq r.2.2.2.1 0) then
          bif (ieq r.2.2.2.2.1 0) then
            some (ieq r.2.2.2.2.2.1 0)
          else
            some false
        else
          some false
      else
        Option.bind (g_i_Machine_isTime m r.2.2.1 r.2.2.2.1) fun y3 =>
        bif y3 then
          bif (ile 1 r.2.2.2.2.1) then
            bif (ile r.2.2.2.2.1 100) then
              bif (ile 0 r.2.2.2.2.2.1) then
                some (ilt r.2.2.2.2.2.1 r.2.2.2.2.1)
              else
                some false
            else
              some false
          else
            some false
        else
          some false


def g_i_Decimal (n : Int) : Option (ByteArray) :=
  Option.bind (g_formatInt n 10) fun y1 =>
  some y1


def g_i_joined (words : (List ByteArray)) : Option (ByteArray) :=
  bif (ieq (((List.length words) : Nat) : Int) 0) then
    some (ByteArray.mk #[110, 111, 110, 101])
  else
    Option.bind (g_joinStr words (ByteArray.mk #[44])) fun y1 =>
    some y1


def L_i_listText_1 (rec' : ((List Int) × Int × Int × Unit) × ((List ByteArray) × Unit) → Option ((Unit) × ((List ByteArray) × Unit))) (x : ((List Int) × Int × Int × Unit) × ((List ByteArray) × Unit)) : Option ((Unit) × ((List ByteArray) × Unit)) := match x with
  | ((t9, t10, t11, ()), (r0, ())) =>
    bif (ilt t11 t10) then
      Option.bind (ix t11 (List.length t9)) fun j1 =>
      Option.bind (g_i_Decimal (List.getD t9 j1 (0 : Int))) fun y2 =>
      Option.bind (ix t11 (List.length r0)) fun j3 =>
      rec' ((t9, (t10, ((iadd .i64 t11 1), ()))), ((List.set r0 j3 y2), ()))
    else
      some ((), (r0, ()))

def g_i_listText (list : (List Int)) : Option (ByteArray) :=
  bif (mkOk (((List.length list) : Nat) : Int) (((List.length list) : Nat) : Int)) then
    Option.bind (iter L_i_listText_1 fuel ((list, ((((List.length list) : Nat) : Int), (0, ()))), ((List.replicate (List.length list) ByteArray.empty), ()))) fun y1 =>
    Option.bind (g_i_joined y1.2.1) fun y2 =>
    some y2
  else
    none


def g_i_StateText (m : dMachine) (r : dRun) : Option ((ByteArray × (Bool × Unit))) :=
  Option.bind (g_i_IsRun m r) fun y1 =>
  bif (!y1) then
    some ((ByteArray.mk #[]), (false, ()))
  else
    Option.bind (g_i_listText [r.1, r.2.1, r.2.2.1, r.2.2.2.1, r.2.2.2.2.1, r.2.2.2.2.2.1]) fun y2 =>
    some (y2, (true, ()))


def g_w_sameFloat (a : Nat) (b : Nat) : Option (Bool) :=
  bif (!(feq .f64 a a)) then
    bif (!(feq .f64 a a)) then
      some (!(feq .f64 b b))
    else
      some false
  else
    bif (!(feq .f64 b b)) then
      bif (!(feq .f64 a a)) then
        some (!(feq .f64 b b))
      else
        some false
    else
      bif (feq .f64 a 0) then
        bif (feq .f64 b 0) then
          some ((fgt .f64 (fdiv .f64 4607182418800017408 a) 0) == (fgt .f64 (fdiv .f64 4607182418800017408 b) 0))
        else
          some (feq .f64 a b)
      else
        some (feq .f64 a b)

def t_w_sameFloat (a : Nat) (b : Nat) : Bool :=
  bif (!(feq .f64 a a)) then
    bif (!(feq .f64 a a)) then
      (!(feq .f64 b b))
    else
      false
  else
    bif (!(feq .f64 b b)) then
      bif (!(feq .f64 a a)) then
        (!(feq .f64 b b))
      else
        false
    else
      bif (feq .f64 a 0) then
        bif (feq .f64 b 0) then
          ((fgt .f64 (fdiv .f64 4607182418800017408 a) 0) == (fgt .f64 (fdiv .f64 4607182418800017408 b) 0))
        else
          (feq .f64 a b)
      else
        (feq .f64 a b)

theorem q_w_sameFloat (a : Nat) (b : Nat) : g_w_sameFloat a b = some (t_w_sameFloat a b) := by
  unfold g_w_sameFloat t_w_sameFloat; simp only [bif_some_some]


def g_w_eqTurn (a : dTurn) (b : dTurn) : Option (Bool) :=
  bif (!(t_w_sameFloat (fwide a.1) (fwide b.1))) then
    some false
  else
    bif (!(t_w_sameFloat (fwide a.2.1) (fwide b.2.1))) then
      some false
    else
      bif (!(t_w_sameFloat (fwide a.2.2.1) (fwide b.2.2.1))) then
        some false
      else
        bif (!(t_w_sameFloat (fwide a.2.2.2.1) (fwide b.2.2.2.1))) then
          some false
        else
          some true

def t_w_eqTurn (a : dTurn) (b : dTurn) : Bool :=
  bif (!(t_w_sameFloat (fwide a.1) (fwide b.1))) then
    false
  else
    bif (!(t_w_sameFloat (fwide a.2.1) (fwide b.2.1))) then
      false
    else
      bif (!(t_w_sameFloat (fwide a.2.2.1) (fwide b.2.2.1))) then
        false
      else
        bif (!(t_w_sameFloat (fwide a.2.2.2.1) (fwide b.2.2.2.1))) then
          false
        else
          true

theorem q_w_eqTurn (a : dTurn) (b : dTurn) : g_w_eqTurn a b = some (t_w_eqTurn a b) := by
  unfold g_w_eqTurn t_w_eqTurn; simp only [bif_some_some]


def g_w_eqKey (a : dKey) (b : dKey) : Option (Bool) :=
  bif (!(ieq a.1 b.1)) then
    some false
  else
    bif (!(t_w_eqTurn a.2.1 b.2.1)) then
      some false
    else
      some true

def t_w_eqKey (a : dKey) (b : dKey) : Bool :=
  bif (!(ieq a.1 b.1)) then
    false
  else
    bif (!(t_w_eqTurn a.2.1 b.2.1)) then
      false
    else
      true

theorem q_w_eqKey (a : dKey) (b : dKey) : g_w_eqKey a b = some (t_w_eqKey a b) := by
  unfold g_w_eqKey t_w_eqKey; simp only [bif_some_some]


def L_w_eqKeyS_1 (rec' : ((List dKey) × (List dKey) × Bool × Int × Unit) × (Unit) → Option (Bool × ((Bool × Unit) × (Unit)))) (x : ((List dKey) × (List dKey) × Bool × Int × Unit) × (Unit)) : Option (Bool × ((Bool × Unit) × (Unit))) := match x with
  | ((a, b, t4, i, ()), (())) =>
    bif (ilt i (((List.length a) : Nat) : Int)) then
      Option.bind (ix i (List.length a)) fun j1 =>
      Option.bind (ix i (List.length b)) fun j2 =>
      bif (!(t_w_eqKey (List.getD a j1 zKey) (List.getD b j2 zKey))) then
        some (true, ((false, ()), ()))
      else
        rec' ((a, (b, (t4, ((iadd .i64 i 1), ())))), ())
    else
      some (false, ((t4, ()), ()))

def g_w_eqKeyS (a : (List dKey)) (b : (List dKey)) : Option (Bool) :=
  bif (!(ieq (((List.length a) : Nat) : Int) (((List.length b) : Nat) : Int))) then
    some false
  else
    Option.bind (iter L_w_eqKeyS_1 fuel ((a, (b, (false, (0, ())))), ())) fun y1 =>
    bif y1.1 then
      some y1.2.1.1
    else
      some true


def L_w_eqKeySS_1 (rec' : ((List (List dKey)) × (List (List dKey)) × Bool × Int × Unit) × (Unit) → Option (Bool × ((Bool × Unit) × (Unit)))) (x : ((List (List dKey)) × (List (List dKey)) × Bool × Int × Unit) × (Unit)) : Option (Bool × ((Bool × Unit) × (Unit))) := match x with
  | ((a, b, t4, i, ()), (())) =>
    bif (ilt i (((List.length a) : Nat) : Int)) then
      Option.bind (ix i (List.length a)) fun j1 =>
      Option.bind (ix i (List.length b)) fun j2 =>
      Option.bind (g_w_eqKeyS (List.getD a j1 []) (List.getD b j2 [])) fun y3 =>
      bif (!y3) then
        some (true, ((false, ()), ()))
      else
        rec' ((a, (b, (t4, ((iadd .i64 i 1), ())))), ())
    else
      some (false, ((t4, ()), ()))

def g_w_eqKeySS (a : (List (List dKey))) (b : (List (List dKey))) : Option (Bool) :=
  bif (!(ieq (((List.length a) : Nat) : Int) (((List.length b) : Nat) : Int))) then
    some false
  else
    Option.bind (iter L_w_eqKeySS_1 fuel ((a, (b, (false, (0, ())))), ())) fun y1 =>
    bif y1.1 then
      some y1.2.1.1
    else
      some true


def g_w_eqVector (a : dVec) (b : dVec) : Option (Bool) :=
  bif (!(t_w_sameFloat (fwide a.1) (fwide b.1))) then
    some false
  else
    bif (!(t_w_sameFloat (fwide a.2.1) (fwide b.2.1))) then
      some false
    else
      bif (!(t_w_sameFloat (fwide a.2.2.1) (fwide b.2.2.1))) then
        some false
      else
        some true

def t_w_eqVector (a : dVec) (b : dVec) : Bool :=
  bif (!(t_w_sameFloat (fwide a.1) (fwide b.1))) then
    false
  else
    bif (!(t_w_sameFloat (fwide a.2.1) (fwide b.2.1))) then
      false
    else
      bif (!(t_w_sameFloat (fwide a.2.2.1) (fwide b.2.2.1))) then
        false
      else
        true

theorem q_w_eqVector (a : dVec) (b : dVec) : g_w_eqVector a b = some (t_w_eqVector a b) := by
  unfold g_w_eqVector t_w_eqVector; simp only [bif_some_some]


def g_w_eqRootKey (a : dRootKey) (b : dRootKey) : Option (Bool) :=
  bif (!(ieq a.1 b.1)) then
    some false
  else
    bif (!(t_w_eqVector a.2.1 b.2.1)) then
      some false
    else
      some true

def t_w_eqRootKey (a : dRootKey) (b : dRootKey) : Bool :=
  bif (!(ieq a.1 b.1)) then
    false
  else
    bif (!(t_w_eqVector a.2.1 b.2.1)) then
      false
    else
      true

theorem q_w_eqRootKey (a : dRootKey) (b : dRootKey) : g_w_eqRootKey a b = some (t_w_eqRootKey a b) := by
  unfold g_w_eqRootKey t_w_eqRootKey; simp only [bif_some_some]


def L_w_eqRootKeyS_1 (rec' : ((List dRootKey) × (List dRootKey) × Bool × Int × Unit) × (Unit) → Option (Bool × ((Bool × Unit) × (Unit)))) (x : ((List dRootKey) × (List dRootKey) × Bool × Int × Unit) × (Unit)) : Option (Bool × ((Bool × Unit) × (Unit))) := match x with
  | ((a, b, t4, i, ()), (())) =>
    bif (ilt i (((List.length a) : Nat) : Int)) then
      Option.bind (ix i (List.length a)) fun j1 =>
      Option.bind (ix i (List.length b)) fun j2 =>
      bif (!(t_w_eqRootKey (List.getD a j1 zRootKey) (List.getD b j2 zRootKey))) then
        some (true, ((false, ()), ()))
      else
        rec' ((a, (b, (t4, ((iadd .i64 i 1), ())))), ())
    else
      some (false, ((t4, ()), ()))

def g_w_eqRootKeyS (a : (List dRootKey)) (b : (List dRootKey)) : Option (Bool) :=
  bif (!(ieq (((List.length a) : Nat) : Int) (((List.length b) : Nat) : Int))) then
    some false
  else
    Option.bind (iter L_w_eqRootKeyS_1 fuel ((a, (b, (false, (0, ())))), ())) fun y1 =>
    bif y1.1 then
      some y1.2.1.1
    else
      some true


def g_w_eqClip (a : dClip) (b : dClip) : Option (Bool) :=
  bif (!(ieq a.1 b.1)) then
    some false
  else
    bif (!(ieq a.2.1 b.2.1)) then
      some false
    else
      Option.bind (g_w_eqKeySS a.2.2.1 b.2.2.1) fun y1 =>
      bif (!y1) then
        some false
      else
        Option.bind (g_w_eqRootKeyS a.2.2.2.1 b.2.2.2.1) fun y2 =>
        bif (!y2) then
          some false
        else
          some true


def L_w_eqClipS_1 (rec' : ((List dClip) × (List dClip) × Bool × Int × Unit) × (Unit) → Option (Bool × ((Bool × Unit) × (Unit)))) (x : ((List dClip) × (List dClip) × Bool × Int × Unit) × (Unit)) : Option (Bool × ((Bool × Unit) × (Unit))) := match x with
  | ((a, b, t4, i, ()), (())) =>
    bif (ilt i (((List.length a) : Nat) : Int)) then
      Option.bind (ix i (List.length a)) fun j1 =>
      Option.bind (ix i (List.length b)) fun j2 =>
      Option.bind (g_w_eqClip (List.getD a j1 zClip) (List.getD b j2 zClip)) fun y3 =>
      bif (!y3) then
        some (true, ((false, ()), ()))
      else
        rec' ((a, (b, (t4, ((iadd .i64 i 1), ())))), ())
    else
      some (false, ((t4, ()), ()))

def g_w_eqClipS (a : (List dClip)) (b : (List dClip)) : Option (Bool) :=
  bif (!(ieq (((List.length a) : Nat) : Int) (((List.length b) : Nat) : Int))) then
    some false
  else
    Option.bind (iter L_w_eqClipS_1 fuel ((a, (b, (false, (0, ())))), ())) fun y1 =>
    bif y1.1 then
      some y1.2.1.1
    else
      some true


def g_w_eqState (a : dState) (b : dState) : Option (Bool) :=
  bif (!(ieq a.1 b.1)) then
    some false
  else
    bif (!(ieq a.2.1 b.2.1)) then
      some false
    else
      bif (!(a.2.2.1 == b.2.2.1)) then
        some false
      else
        some true

def t_w_eqState (a : dState) (b : dState) : Bool :=
  bif (!(ieq a.1 b.1)) then
    false
  else
    bif (!(ieq a.2.1 b.2.1)) then
      false
    else
      bif (!(a.2.2.1 == b.2.2.1)) then
        false
      else
        true

theorem q_w_eqState (a : dState) (b : dState) : g_w_eqState a b = some (t_w_eqState a b) := by
  unfold g_w_eqState t_w_eqState; simp only [bif_some_some]


def L_w_eqStateS_1 (rec' : ((List dState) × (List dState) × Bool × Int × Unit) × (Unit) → Option (Bool × ((Bool × Unit) × (Unit)))) (x : ((List dState) × (List dState) × Bool × Int × Unit) × (Unit)) : Option (Bool × ((Bool × Unit) × (Unit))) := match x with
  | ((a, b, t4, i, ()), (())) =>
    bif (ilt i (((List.length a) : Nat) : Int)) then
      Option.bind (ix i (List.length a)) fun j1 =>
      Option.bind (ix i (List.length b)) fun j2 =>
      bif (!(t_w_eqState (List.getD a j1 zState) (List.getD b j2 zState))) then
        some (true, ((false, ()), ()))
      else
        rec' ((a, (b, (t4, ((iadd .i64 i 1), ())))), ())
    else
      some (false, ((t4, ()), ()))

def g_w_eqStateS (a : (List dState)) (b : (List dState)) : Option (Bool) :=
  bif (!(ieq (((List.length a) : Nat) : Int) (((List.length b) : Nat) : Int))) then
    some false
  else
    Option.bind (iter L_w_eqStateS_1 fuel ((a, (b, (false, (0, ())))), ())) fun y1 =>
    bif y1.1 then
      some y1.2.1.1
    else
      some true


def g_w_eqRule (a : dRule) (b : dRule) : Option (Bool) :=
  bif (!(ieq a.1 b.1)) then
    some false
  else
    bif (!(ieq a.2.1 b.2.1)) then
      some false
    else
      bif (!(ieq a.2.2.1 b.2.2.1)) then
        some false
      else
        bif (!(ieq a.2.2.2.1 b.2.2.2.1)) then
          some false
        else
          bif (!(t_w_sameFloat (fwide a.2.2.2.2.1) (fwide b.2.2.2.2.1))) then
            some false
          else
            bif (!(ieq a.2.2.2.2.2.1 b.2.2.2.2.2.1)) then
              some false
            else
              some true

def t_w_eqRule (a : dRule) (b : dRule) : Bool :=
  bif (!(ieq a.1 b.1)) then
    false
  else
    bif (!(ieq a.2.1 b.2.1)) then
      false
    else
      bif (!(ieq a.2.2.1 b.2.2.1)) then
        false
      else
        bif (!(ieq a.2.2.2.1 b.2.2.2.1)) then
          false
        else
          bif (!(t_w_sameFloat (fwide a.2.2.2.2.1) (fwide b.2.2.2.2.1))) then
            false
          else
            bif (!(ieq a.2.2.2.2.2.1 b.2.2.2.2.2.1)) then
              false
            else
              true

theorem q_w_eqRule (a : dRule) (b : dRule) : g_w_eqRule a b = some (t_w_eqRule a b) := by
  unfold g_w_eqRule t_w_eqRule; simp only [bif_some_some]


def L_w_eqRuleS_1 (rec' : ((List dRule) × (List dRule) × Bool × Int × Unit) × (Unit) → Option (Bool × ((Bool × Unit) × (Unit)))) (x : ((List dRule) × (List dRule) × Bool × Int × Unit) × (Unit)) : Option (Bool × ((Bool × Unit) × (Unit))) := match x with
  | ((a, b, t4, i, ()), (())) =>
    bif (ilt i (((List.length a) : Nat) : Int)) then
      Option.bind (ix i (List.length a)) fun j1 =>
      Option.bind (ix i (List.length b)) fun j2 =>
      bif (!(t_w_eqRule (List.getD a j1 zRule) (List.getD b j2 zRule))) then
        some (true, ((false, ()), ()))
      else
        rec' ((a, (b, (t4, ((iadd .i64 i 1), ())))), ())
    else
      some (false, ((t4, ()), ()))

def g_w_eqRuleS (a : (List dRule)) (b : (List dRule)) : Option (Bool) :=
  bif (!(ieq (((List.length a) : Nat) : Int) (((List.length b) : Nat) : Int))) then
    some false
  else
    Option.bind (iter L_w_eqRuleS_1 fuel ((a, (b, (false, (0, ())))), ())) fun y1 =>
    bif y1.1 then
      some y1.2.1.1
    else
      some true


def g_w_eqMachine (a : dMachine) (b : dMachine) : Option (Bool) :=
  Option.bind (g_w_eqClipS a.1 b.1) fun y1 =>
  bif (!y1) then
    some false
  else
    Option.bind (g_w_eqStateS a.2.1 b.2.1) fun y2 =>
    bif (!y2) then
      some false
    else
      Option.bind (g_w_eqRuleS a.2.2.1 b.2.2.1) fun y3 =>
      bif (!y3) then
        some false
      else
        some true


def g_w_FnExactStateText (aM : dMachine) (aR : dRun) : Option (Bool) :=
  Option.bind (g_w_szMachine aM 1048576) fun y1 =>
  bif (ilt y1 0) then
    some true
  else
    Option.bind (g_w_toMachine aM) fun y2 =>
    Option.bind (g_s_StateText y2 (t_w_toRun aR)) fun y3 =>
    Option.bind (g_w_toMachine aM) fun y4 =>
    Option.bind (g_i_StateText y4 (t_w_toRun aR)) fun y5 =>
    bif (!(seq y5.1 y3.1)) then
      some false
    else
      bif (!(y5.2.1 == y3.2.1)) then
        some false
      else
        Option.bind (g_w_toMachine aM) fun y6 =>
        Option.bind (g_w_eqMachine y4 y6) fun y7 =>
        bif (!y7) then
          some false
        else
          some true

end
end Go.Fw
