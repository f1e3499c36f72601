/- What the functions compute, as plain Lean functions. No condition. -/
import Derived.Test.YtobcfldhacdpiaaGreatCPure
set_option linter.unusedVariables false
namespace Go.Fw
noncomputable section
def L_w_markKeyS_1 (rec' : (Int × Int × Unit) × ((List dKey) × Unit) → Option ((Int × Unit) × ((List dKey) × Unit))) (x : (Int × Int × Unit) × ((List dKey) × Unit)) : Option ((Int × Unit) × ((List dKey) × Unit)) := match x with
  | ((k, i, ()), (r0, ())) =>
    let e1 := (iadd .i64 (iadd .i64 (iadd .i64 (iadd .i64 k 1) 1) 1) 1)
    bif (ilt i (((List.length r0) : Nat) : Int)) then
      Option.bind (ix i (List.length r0)) fun j2 =>
      let e3 := (List.set r0 j2 (k, (List.getD r0 j2 zKey).2))
      Option.bind (ix i (List.length e3)) fun j4 =>
      let e5 := (List.getD e3 j4 zKey)
      let e6 := (List.set e3 j4 (e5.1, (((fofInt .f32 (iadd .i64 k 1)), e5.2.1.2), ())))
      Option.bind (ix i (List.length e6)) fun j7 =>
      let e8 := (List.getD e6 j7 zKey)
      let e9 := (List.set e6 j7 (e8.1, ((e8.2.1.1, ((fofInt .f32 (iadd .i64 (iadd .i64 k 1) 1)), e8.2.1.2.2)), ())))
      Option.bind (ix i (List.length e9)) fun j10 =>
      let e11 := (List.getD e9 j10 zKey)
      let e12 := (List.set e9 j10 (e11.1, ((e11.2.1.1, (e11.2.1.2.1, ((fofInt .f32 (iadd .i64 (iadd .i64 (iadd .i64 k 1) 1) 1)), e11.2.1.2.2.2))), ())))
      Option.bind (ix i (List.length e12)) fun j13 =>
      let e14 := (List.getD e12 j13 zKey)
      rec' (((iadd .i64 e1 1), ((iadd .i64 i 1), ())), ((List.set e12 j13 (e14.1, ((e14.2.1.1, (e14.2.1.2.1, (e14.2.1.2.2.1, ((fofInt .f32 e1), ())))), ()))), ()))
    else
      some ((k, ()), (r0, ()))

def g_w_markKeyS (a : (List dKey)) (k : Int) : Option (Int × ((List dKey) × Int × Unit)) :=
  Option.bind (iter L_w_markKeyS_1 fuel ((k, (0, ())), (a, ()))) fun y1 =>
  some (y1.1.1, (y1.2.1, (k, ())))


def L_w_markKeySS_1 (rec' : (Int × Int × Unit) × ((List (List dKey)) × Unit) → Option ((Int × Unit) × ((List (List dKey)) × Unit))) (x : (Int × Int × Unit) × ((List (List dKey)) × Unit)) : Option ((Int × Unit) × ((List (List dKey)) × Unit)) := match x with
  | ((k, i, ()), (r0, ())) =>
    bif (ilt i (((List.length r0) : Nat) : Int)) then
      Option.bind (ix i (List.length r0)) fun j1 =>
      Option.bind (g_w_markKeyS (List.getD r0 j1 []) k) fun y2 =>
      rec' ((y2.1, ((iadd .i64 i 1), ())), ((List.set r0 j1 y2.2.1), ()))
    else
      some ((k, ()), (r0, ()))

def g_w_markKeySS (a : (List (List dKey))) (k : Int) : Option (Int × ((List (List dKey)) × Int × Unit)) :=
  Option.bind (iter L_w_markKeySS_1 fuel ((k, (0, ())), (a, ()))) fun y1 =>
  some (y1.1.1, (y1.2.1, (k, ())))


def L_w_markRootKeyS_1 (rec' : (Int × Int × Unit) × ((List dRootKey) × Unit) → Option ((Int × Unit) × ((List dRootKey) × Unit))) (x : (Int × Int × Unit) × ((List dRootKey) × Unit)) : Option ((Int × Unit) × ((List dRootKey) × Unit)) := match x with
  | ((k, i, ()), (r0, ())) =>
    bif (ilt i (((List.length r0) : Nat) : Int)) then
      Option.bind (ix i (List.length r0)) fun j1 =>
      let e2 := (List.set r0 j1 (k, (List.getD r0 j1 zRootKey).2))
      Option.bind (ix i (List.length e2)) fun j3 =>
      let e4 := (List.getD e2 j3 zRootKey)
      let e5 := (List.set e2 j3 (e4.1, (((fofInt .f32 (iadd .i64 k 1)), e4.2.1.2), ())))
      Option.bind (ix i (List.length e5)) fun j6 =>
      let e7 := (List.getD e5 j6 zRootKey)
      let e8 := (List.set e5 j6 (e7.1, ((e7.2.1.1, ((fofInt .f32 (iadd .i64 (iadd .i64 k 1) 1)), e7.2.1.2.2)), ())))
      Option.bind (ix i (List.length e8)) fun j9 =>
      let e10 := (List.getD e8 j9 zRootKey)
      rec' (((iadd .i64 (iadd .i64 (iadd .i64 (iadd .i64 k 1) 1) 1) 1), ((iadd .i64 i 1), ())), ((List.set e8 j9 (e10.1, ((e10.2.1.1, (e10.2.1.2.1, ((fofInt .f32 (iadd .i64 (iadd .i64 (iadd .i64 k 1) 1) 1)), ()))), ()))), ()))
    else
      some ((k, ()), (r0, ()))

def g_w_markRootKeyS (a : (List dRootKey)) (k : Int) : Option (Int × ((List dRootKey) × Int × Unit)) :=
  Option.bind (iter L_w_markRootKeyS_1 fuel ((k, (0, ())), (a, ()))) fun y1 =>
  some (y1.1.1, (y1.2.1, (k, ())))


def L_w_markClipS_1 (rec' : (Int × Int × Unit) × ((List dClip) × Unit) → Option ((Int × Unit) × ((List dClip) × Unit))) (x : (Int × Int × Unit) × ((List dClip) × Unit)) : Option ((Int × Unit) × ((List dClip) × Unit)) := match x with
  | ((k, i, ()), (r0, ())) =>
    bif (ilt i (((List.length r0) : Nat) : Int)) then
      Option.bind (ix i (List.length r0)) fun j1 =>
      let e2 := (List.set r0 j1 (k, (List.getD r0 j1 zClip).2))
      Option.bind (ix i (List.length e2)) fun j3 =>
      let e4 := (List.getD e2 j3 zClip)
      let e5 := (List.set e2 j3 (e4.1, ((iadd .i64 k 1), e4.2.2)))
      Option.bind (ix i (List.length e5)) fun j6 =>
      let e7 := (List.getD e5 j6 zClip)
      Option.bind (g_w_markKeySS e7.2.2.1 (iadd .i64 (iadd .i64 k 1) 1)) fun y8 =>
      let e9 := (List.set e5 j6 (e7.1, (e7.2.1, (y8.2.1, e7.2.2.2))))
      Option.bind (ix i (List.length e9)) fun j10 =>
      let e11 := (List.getD e9 j10 zClip)
      Option.bind (g_w_markRootKeyS e11.2.2.2.1 y8.1) fun y12 =>
      rec' ((y12.1, ((iadd .i64 i 1), ())), ((List.set e9 j10 (e11.1, (e11.2.1, (e11.2.2.1, (y12.2.1, ()))))), ()))
    else
      some ((k, ()), (r0, ()))

def g_w_markClipS (a : (List dClip)) (k : Int) : Option (Int × ((List dClip) × Int × Unit)) :=
  Option.bind (iter L_w_markClipS_1 fuel ((k, (0, ())), (a, ()))) fun y1 =>
  some (y1.1.1, (y1.2.1, (k, ())))


def L_w_markStateS_1 (rec' : (Int × Int × Unit) × ((List dState) × Unit) → Option ((Int × Unit) × ((List dState) × Unit))) (x : (Int × Int × Unit) × ((List dState) × Unit)) : Option ((Int × Unit) × ((List dState) × Unit)) := match x with
  | ((k, i, ()), (r0, ())) =>
    bif (ilt i (((List.length r0) : Nat) : Int)) then
      Option.bind (ix i (List.length r0)) fun j1 =>
      let e2 := (List.set r0 j1 (k, (List.getD r0 j1 zState).2))
      Option.bind (ix i (List.length e2)) fun j3 =>
      let e4 := (List.getD e2 j3 zState)
      let e5 := (List.set e2 j3 (e4.1, ((iadd .i64 k 1), e4.2.2)))
      Option.bind (ix i (List.length e5)) fun j6 =>
      let e7 := (List.getD e5 j6 zState)
      rec' (((iadd .i64 (iadd .i64 (iadd .i64 k 1) 1) 1), ((iadd .i64 i 1), ())), ((List.set e5 j6 (e7.1, (e7.2.1, ((ieq (irem .i64 (iadd .i64 (iadd .i64 k 1) 1) 3) 0), ())))), ()))
    else
      some ((k, ()), (r0, ()))

def g_w_markStateS (a : (List dState)) (k : Int) : Option (Int × ((List dState) × Int × Unit)) :=
  Option.bind (iter L_w_markStateS_1 fuel ((k, (0, ())), (a, ()))) fun y1 =>
  some (y1.1.1, (y1.2.1, (k, ())))


def L_w_markRuleS_1 (rec' : (Int × Int × Unit) × ((List dRule) × Unit) → Option ((Int × Unit) × ((List dRule) × Unit))) (x : (Int × Int × Unit) × ((List dRule) × Unit)) : Option ((Int × Unit) × ((List dRule) × Unit)) := match x with
  | ((k, i, ()), (r0, ())) =>
    let e1 := (iadd .i64 (iadd .i64 (iadd .i64 (iadd .i64 k 1) 1) 1) 1)
    let e2 := (iadd .i64 e1 1)
    bif (ilt i (((List.length r0) : Nat) : Int)) then
      Option.bind (ix i (List.length r0)) fun j3 =>
      let e4 := (List.set r0 j3 (k, (List.getD r0 j3 zRule).2))
      Option.bind (ix i (List.length e4)) fun j5 =>
      let e6 := (List.getD e4 j5 zRule)
      let e7 := (List.set e4 j5 (e6.1, ((iadd .i64 k 1), e6.2.2)))
      Option.bind (ix i (List.length e7)) fun j8 =>
      let e9 := (List.getD e7 j8 zRule)
      let e10 := (List.set e7 j8 (e9.1, (e9.2.1, ((iadd .i64 (iadd .i64 k 1) 1), e9.2.2.2))))
      Option.bind (ix i (List.length e10)) fun j11 =>
      let e12 := (List.getD e10 j11 zRule)
      let e13 := (List.set e10 j11 (e12.1, (e12.2.1, (e12.2.2.1, ((iadd .i64 (iadd .i64 (iadd .i64 k 1) 1) 1), e12.2.2.2.2)))))
      Option.bind (ix i (List.length e13)) fun j14 =>
      let e15 := (List.getD e13 j14 zRule)
      let e16 := (List.set e13 j14 (e15.1, (e15.2.1, (e15.2.2.1, (e15.2.2.2.1, ((fofInt .f32 e1), e15.2.2.2.2.2))))))
      Option.bind (ix i (List.length e16)) fun j17 =>
      let e18 := (List.getD e16 j17 zRule)
      rec' (((iadd .i64 e2 1), ((iadd .i64 i 1), ())), ((List.set e16 j17 (e18.1, (e18.2.1, (e18.2.2.1, (e18.2.2.2.1, (e18.2.2.2.2.1, (e2, ()))))))), ()))
    else
      some ((k, ()), (r0, ()))

def g_w_markRuleS (a : (List dRule)) (k : Int) : Option (Int × ((List dRule) × Int × Unit)) :=
  Option.bind (iter L_w_markRuleS_1 fuel ((k, (0, ())), (a, ()))) fun y1 =>
  some (y1.1.1, (y1.2.1, (k, ())))


def g_w_markMachine (a : dMachine) (k : Int) : Option (Int × (dMachine × Int × Unit)) :=
  Option.bind (g_w_markClipS a.1 k) fun y1 =>
  Option.bind (g_w_markStateS a.2.1 y1.1) fun y2 =>
  Option.bind (g_w_markRuleS a.2.2.1 y2.1) fun y3 =>
  some (y3.1, ((y1.2.1, (y2.2.1, (y3.2.1, ()))), (k, ())))


def L_s_l00Has_1 (rec' : ((List Int) × Int × Bool × Int × Unit) × (Unit) → Option (Bool × ((Bool × Unit) × (Unit)))) (x : ((List Int) × Int × Bool × Int × Unit) × (Unit)) : Option (Bool × ((Bool × Unit) × (Unit))) := match x with
  | ((list, n, t4, i, ()), (())) =>
    bif (ilt i (((List.length list) : Nat) : Int)) then
      Option.bind (ix i (List.length list)) fun j1 =>
      bif (ieq (List.getD list j1 (0 : Int)) n) then
        some (true, ((true, ()), ()))
      else
        rec' ((list, (n, (t4, ((iadd .i64 i 1), ())))), ())
    else
      some (false, ((t4, ()), ()))

def g_s_l00Has (list : (List Int)) (n : Int) : Option (Bool) :=
  Option.bind (iter L_s_l00Has_1 fuel ((list, (n, (false, (0, ())))), ())) fun y1 =>
  bif y1.1 then
    some y1.2.1.1
  else
    some false


def L_s_ReachedStates_3 (rec' : (Int × Int × Unit) × ((List Int) × (List Int) × Unit) → Option ((Unit) × ((List Int) × Unit))) (x : (Int × Int × Unit) × ((List Int) × (List Int) × Unit)) : Option ((Unit) × ((List Int) × Unit)) := match x with
  | ((t84, t85, ()), (r1, r2, ())) =>
    bif (ilt t85 t84) then
      Option.bind (ix t85 (List.length r1)) fun j1 =>
      Option.bind (g_s_l00Put r2 (List.getD r1 j1 (0 : Int))) fun y2 =>
      rec' ((t84, ((iadd .i64 t85 1), ())), (r1, (y2, ())))
    else
      some ((), (r2, ()))

def L_s_ReachedStates_2 (rec' : (Int × Int × Int × Unit) × ((dMachine × Unit) × (List Int) × Unit) → Option ((Int × Unit) × ((dMachine × Unit) × (List Int) × Unit))) (x : (Int × Int × Int × Unit) × ((dMachine × Unit) × (List Int) × Unit)) : Option ((Int × Unit) × ((dMachine × Unit) × (List Int) × Unit)) := match x with
  | ((i, t33, t34, ()), ((b0, ()), r1, ())) =>
    let e1 := (i, (t33, ((iadd .i64 t34 1), ())))
    let e2 := (e1, ((b0, ()), (r1, ())))
    bif (ilt t34 t33) then
      Option.bind (ix t34 (List.length b0.2.2.1)) fun j3 =>
      let e4 := (g_s_l00Has r1 (List.getD b0.2.2.1 j3 zRule).2.1)
      let e5 := (ieq (List.getD b0.2.2.1 j3 zRule).2.2.1 3)
      let e6 := (e1, ((b0, ()), ((r1 ++ [(List.getD b0.2.2.1 j3 zRule).2.1]), ())))
      bif (ile 0 (List.getD b0.2.2.1 j3 zRule).1) then
        Option.bind (ix i (List.length r1)) fun j7 =>
        bif (!(ieq (List.getD b0.2.2.1 j3 zRule).1 (List.getD r1 j7 (0 : Int)))) then
          rec' e2
        else
          bif e5 then
            Option.bind (ix i (List.length r1)) fun j8 =>
            Option.bind (ix (List.getD r1 j8 (0 : Int)) (List.length b0.2.1)) fun j9 =>
            bif (List.getD b0.2.1 j9 zState).2.2.1 then
              rec' e2
            else
              Option.bind e4 fun y10 =>
              bif y10 then
                rec' e2
              else
                bif (Nat.ble ((List.length r1) + 1) 4294967296) then
                  rec' e6
                else
                  none
          else
            Option.bind e4 fun y11 =>
            bif y11 then
              rec' e2
            else
              bif (Nat.ble ((List.length r1) + 1) 4294967296) then
                rec' e6
              else
                none
      else
        bif e5 then
          Option.bind (ix i (List.length r1)) fun j12 =>
          Option.bind (ix (List.getD r1 j12 (0 : Int)) (List.length b0.2.1)) fun j13 =>
          bif (List.getD b0.2.1 j13 zState).2.2.1 then
            rec' e2
          else
            Option.bind e4 fun y14 =>
            bif y14 then
              rec' e2
            else
              bif (Nat.ble ((List.length r1) + 1) 4294967296) then
                rec' e6
              else
                none
        else
          Option.bind e4 fun y15 =>
          bif y15 then
            rec' e2
          else
            bif (Nat.ble ((List.length r1) + 1) 4294967296) then
              rec' e6
            else
              none
    else
      some ((i, ()), ((b0, ()), (r1, ())))

def L_s_ReachedStates_1 (rec' : (Int × Unit) × ((dMachine × Unit) × (List Int) × Unit) → Option ((Unit) × ((List Int) × Unit))) (x : (Int × Unit) × ((dMachine × Unit) × (List Int) × Unit)) : Option ((Unit) × ((List Int) × Unit)) := match x with
  | ((i, ()), ((b0, ()), r1, ())) =>
    bif (ilt i (((List.length r1) : Nat) : Int)) then
      Option.bind (iter L_s_ReachedStates_2 fuel ((i, ((((List.length b0.2.2.1) : Nat) : Int), (0, ()))), ((b0, ()), (r1, ())))) fun y1 =>
      rec' (((iadd .i64 y1.1.1 1), ()), ((y1.2.1.1, ()), (y1.2.2.1, ())))
    else
      some ((), (r1, ()))

def g_s_ReachedStates (m : dMachine) (state : Int) : Option (((List Int) × (Bool × Unit))) :=
  Option.bind (g_s_l07Is m) fun y1 =>
  bif (!y1) then
    some (([] : List Int), (false, ()))
  else
    bif (!(t_s_l00In state 0 (isub .i64 (((List.length m.2.1) : Nat) : Int) 1))) then
      some (([] : List Int), (false, ()))
    else
      Option.bind (iter L_s_ReachedStates_1 fuel ((0, ()), ((m, ()), ([state], ())))) fun y2 =>
      Option.bind (iter L_s_ReachedStates_3 fuel (((((List.length y2.2.1) : Nat) : Int), (0, ())), (y2.2.1, ([], ())))) fun y3 =>
      some (y3.2.1, (true, ()))


def L_slices_Index_int64_int64_1 (rec' : ((List Int) × Int × Int × Int × Int × Unit) × (Unit) → Option (Bool × ((Int × Unit) × (Unit)))) (x : ((List Int) × Int × Int × Int × Int × Unit) × (Unit)) : Option (Bool × ((Int × Unit) × (Unit))) := match x with
  | ((s, v, t4, t7, t8, ()), (())) =>
    bif (ilt t8 t7) then
      Option.bind (ix t8 (List.length s)) fun j1 =>
      bif (ieq v (List.getD s j1 (0 : Int))) then
        some (true, ((t8, ()), ()))
      else
        rec' ((s, (v, (t4, (t7, ((iadd .i64 t8 1), ()))))), ())
    else
      some (false, ((t4, ()), ()))

def g_slices_Index_int64_int64 (s : (List Int)) (v : Int) : Option (Int) :=
  Option.bind (iter L_slices_Index_int64_int64_1 fuel ((s, (v, (0, ((((List.length s) : Nat) : Int), (0, ()))))), ())) fun y1 =>
  bif y1.1 then
    some y1.2.1.1
  else
    some (-1)


def g_slices_Contains_int64_int64 (s : (List Int)) (v : Int) : Option (Bool) :=
  Option.bind (g_slices_Index_int64_int64 s v) fun y1 =>
  some (ile 0 y1)


def L_i_ReachedStates_2 (rec' : (Int × (List dRule) × Int × Int × Unit) × ((dMachine × Unit) × (List Int) × Unit) → Option ((Int × Unit) × ((dMachine × Unit) × (List Int) × Unit))) (x : (Int × (List dRule) × Int × Int × Unit) × ((dMachine × Unit) × (List Int) × Unit)) : Option ((Int × Unit) × ((dMachine × Unit) × (List Int) × Unit)) := match x with
  | ((i, t24, t25, t26, ()), ((b0, ()), r1, ())) =>
    let e1 := (i, (t24, (t25, ((iadd .i64 t26 1), ()))))
    let e2 := (e1, ((b0, ()), (r1, ())))
    bif (ilt t26 t25) then
      Option.bind (ix t26 (List.length t24)) fun j3 =>
      let e4 := (e1, ((b0, ()), ((r1 ++ [(List.getD t24 j3 zRule).2.1]), ())))
      bif (ieq (List.getD t24 j3 zRule).1 (-1)) then
        bif (!(ieq (List.getD t24 j3 zRule).2.2.1 3)) then
          Option.bind (g_slices_Contains_int64_int64 r1 (List.getD t24 j3 zRule).2.1) fun y5 =>
          bif (!y5) then
            bif (Nat.ble ((List.length r1) + 1) 4294967296) then
              rec' e4
            else
              none
          else
            rec' e2
        else
          Option.bind (ix i (List.length r1)) fun j6 =>
          Option.bind (ix (List.getD r1 j6 (0 : Int)) (List.length b0.2.1)) fun j7 =>
          bif (!(List.getD b0.2.1 j7 zState).2.2.1) then
            Option.bind (g_slices_Contains_int64_int64 r1 (List.getD t24 j3 zRule).2.1) fun y8 =>
            bif (!y8) then
              bif (Nat.ble ((List.length r1) + 1) 4294967296) then
                rec' e4
              else
                none
            else
              rec' e2
          else
            rec' e2
      else
        Option.bind (ix i (List.length r1)) fun j9 =>
        bif (ieq (List.getD t24 j3 zRule).1 (List.getD r1 j9 (0 : Int))) then
          bif (!(ieq (List.getD t24 j3 zRule).2.2.1 3)) then
            Option.bind (g_slices_Contains_int64_int64 r1 (List.getD t24 j3 zRule).2.1) fun y10 =>
            bif (!y10) then
              bif (Nat.ble ((List.length r1) + 1) 4294967296) then
                rec' e4
              else
                none
            else
              rec' e2
          else
            Option.bind (ix i (List.length r1)) fun j11 =>
            Option.bind (ix (List.getD r1 j11 (0 : Int)) (List.length b0.2.1)) fun j12 =>
            bif (!(List.getD b0.2.1 j12 zState).2.2.1) then
              Option.bind (g_slices_Contains_int64_int64 r1 (List.getD t24 j3 zRule).2.1) fun y13 =>
              bif (!y13) then
                bif (Nat.ble ((List.length r1) + 1) 4294967296) then
                  rec' e4
                else
                  none
              else
                rec' e2
            else
              rec' e2
        else
          rec' e2
    else
      some ((i, ()), ((b0, ()), (r1, ())))

def L_i_ReachedStates_1 (rec' : (Int × Unit) × ((dMachine × Unit) × (List Int) × Unit) → Option ((Unit) × ((List Int) × Unit))) (x : (Int × Unit) × ((dMachine × Unit) × (List Int) × Unit)) : Option ((Unit) × ((List Int) × Unit)) := match x with
  | ((i, ()), ((b0, ()), r1, ())) =>
    bif (ilt i (((List.length r1) : Nat) : Int)) then
      Option.bind (iter L_i_ReachedStates_2 fuel ((i, (b0.2.2.1, ((((List.length b0.2.2.1) : Nat) : Int), (0, ())))), ((b0, ()), (r1, ())))) fun y1 =>
      rec' (((iadd .i64 y1.1.1 1), ()), ((y1.2.1.1, ()), (y1.2.2.1, ())))
    else
      some ((), (r1, ()))

def g_i_ReachedStates (m : dMachine) (state : Int) : Option (((List Int) × (Bool × Unit))) :=
  Option.bind (g_i_hasState m state) fun y1 =>
  bif (!y1) then
    some (([] : List Int), (false, ()))
  else
    Option.bind (iter L_i_ReachedStates_1 fuel ((0, ()), ((m, ()), ([state], ())))) fun y2 =>
    Option.bind (g_sortInt64 y2.2.1) fun y3 =>
    some (y3.2.1, (true, ()))


def g_w_FnExactReachedStates (aM : dMachine) (aState : Int) : Option (Bool) :=
  Option.bind (g_w_szMachine aM 1048576) fun y1 =>
  bif (ilt y1 0) then
    some true
  else
    Option.bind (g_w_toMachine aM) fun y2 =>
    Option.bind (g_s_ReachedStates y2 aState) fun y3 =>
    Option.bind (g_w_toMachine aM) fun y4 =>
    Option.bind (g_i_ReachedStates y4 aState) fun y5 =>
    Option.bind (g_w_eqInt64S y5.1 y3.1) fun y6 =>
    bif (!y6) then
      some false
    else
      bif (!(y5.2.1 == y3.2.1)) then
        some false
      else
        Option.bind (g_w_toMachine aM) fun y7 =>
        Option.bind (g_w_eqMachine y4 y7) fun y8 =>
        bif (!y8) then
          some false
        else
          Option.bind (g_w_markMachine y4 1) fun y9 =>
          bif (ilt y9.1 0) then
            some false
          else
            Option.bind (g_w_eqInt64S y5.1 y3.1) fun y10 =>
            bif (!y10) then
              some false
            else
              bif (!(y5.2.1 == y3.2.1)) then
                some false
              else
                Option.bind (g_w_markInt64S y5.1 1) fun y11 =>
                Option.bind (g_w_heldInt64S y11.2.1 1) fun y12 =>
                bif (ilt y12 0) then
                  some false
                else
                  bif (!(ieq y12 y11.1)) then
                    some false
                  else
                    Option.bind (g_w_toMachine aM) fun y13 =>
                    Option.bind (g_i_ReachedStates y13 aState) fun y14 =>
                    Option.bind (g_w_eqInt64S y14.1 y3.1) fun y15 =>
                    bif (!y15) then
                      some false
                    else
                      bif (!(y14.2.1 == y3.2.1)) then
                        some false
                      else
                        Option.bind (g_w_heldInt64S y11.2.1 1) fun y16 =>
                        bif (ilt y16 0) then
                          some false
                        else
                          bif (!(ieq y16 y11.1)) then
                            some false
                          else
                            some true


end
end Go.Fw
