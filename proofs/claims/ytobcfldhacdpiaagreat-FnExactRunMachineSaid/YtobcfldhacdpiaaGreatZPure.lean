/- What the functions compute, as plain Lean functions. No condition. -/
import Derived.Test.YtobcfldhacdpiaaGreatCPure
set_option linter.unusedVariables false
namespace Go.Fw
noncomputable section
def g_s_l00Min (a : Int) (b : Int) : Option (Int) :=
  bif (ilt a b) then
    some a
  else
    some b

def t_s_l00Min (a : Int) (b : Int) : Int :=
  bif (ilt a b) then
    a
  else
    b

theorem q_s_l00Min (a : Int) (b : Int) : g_s_l00Min a b = some (t_s_l00Min a b) := by
  unfold g_s_l00Min t_s_l00Min; simp only [bif_some_some]


def g_s_l07On (m : dMachine) (state : Int) (time : Int) : Option (Int) :=
  Option.bind (g_s_l07Length m state) fun y1 =>
  Option.bind (ix state (List.length m.2.1)) fun j2 =>
  let e3 := (iadd .i64 time (List.getD m.2.1 j2 zState).2.1)
  Option.bind (ix state (List.length m.2.1)) fun j4 =>
  bif (List.getD m.2.1 j4 zState).2.2.1 then
    bif (nz y1) then
      some (irem .i64 e3 y1)
    else
      none
  else
    some (t_s_l00Min e3 y1)


def g_s_l07Step (m : dMachine) (r : dRun) (inputs : (List Nat)) : Option (dRun) :=
  let e1 := ((-1), (0, (0, (0, ()))))
  let e2 := (iadd .i64 r.2.2.2.2.2.1 1)
  Option.bind (g_s_l07First m r inputs) fun y3 =>
  bif (ile 0 y3) then
    Option.bind (ix y3 (List.length m.2.2.1)) fun j4 =>
    let e5 := (t_s_l07Start (List.getD m.2.2.1 j4 zRule).2.1)
    let e6 := (iadd .i64 e5.2.2.2.2.2.1 1)
    bif (ieq (List.getD m.2.2.1 j4 zRule).2.2.2.2.2.1 0) then
      Option.bind (g_s_l07On m e5.1 e5.2.1) fun y7 =>
      bif (ile 0 e5.2.2.1) then
        Option.bind (g_s_l07On m e5.2.2.1 e5.2.2.2.1) fun y8 =>
        bif (ieq e6 e5.2.2.2.2.1) then
          some (e5.1, (y7, e1))
        else
          some (e5.1, (y7, (e5.2.2.1, (y8, (e5.2.2.2.2.1, (e6, ()))))))
      else
        some (e5.1, (y7, e5.2.2))
    else
      Option.bind (g_s_l07On m (List.getD m.2.2.1 j4 zRule).2.1 0) fun y9 =>
      bif (ile 0 r.1) then
        Option.bind (g_s_l07On m r.1 r.2.1) fun y10 =>
        bif (ieq 1 (List.getD m.2.2.1 j4 zRule).2.2.2.2.2.1) then
          some ((List.getD m.2.2.1 j4 zRule).2.1, (y9, e1))
        else
          some ((List.getD m.2.2.1 j4 zRule).2.1, (y9, (r.1, (y10, ((List.getD m.2.2.1 j4 zRule).2.2.2.2.2.1, (1, ()))))))
      else
        some ((List.getD m.2.2.1 j4 zRule).2.1, (y9, (r.1, (r.2.1, ((List.getD m.2.2.1 j4 zRule).2.2.2.2.2.1, (0, ()))))))
  else
    Option.bind (g_s_l07On m r.1 r.2.1) fun y11 =>
    bif (ile 0 r.2.2.1) then
      Option.bind (g_s_l07On m r.2.2.1 r.2.2.2.1) fun y12 =>
      bif (ieq e2 r.2.2.2.2.1) then
        some (r.1, (y11, e1))
      else
        some (r.1, (y11, (r.2.2.1, (y12, (r.2.2.2.2.1, (e2, ()))))))
    else
      some (r.1, (y11, r.2.2))


def g_i_Machine_later (m : dMachine) (state : Int) (atx : Int) : Option (Int) :=
  Option.bind (ix state (List.length m.2.1)) fun j1 =>
  let e2 := (iadd .i64 atx (List.getD m.2.1 j1 zState).2.1)
  Option.bind (g_i_Machine_length m state) fun y3 =>
  bif (List.getD m.2.1 j1 zState).2.2.1 then
    bif (nz y3) then
      some (irem .i64 e2 y3)
    else
      none
  else
    bif (ilt y3 e2) then
      some y3
    else
      some e2


def g_i_Machine_step (m : dMachine) (r : dRun) (inputs : (List Nat)) : Option (dRun) :=
  let e1 := ((-1), (0, (0, (0, ()))))
  let e2 := (iadd .i64 r.2.2.2.2.2.1 1)
  Option.bind (g_i_Machine_first m r inputs) fun y3 =>
  bif (ile 0 y3) then
    Option.bind (ix y3 (List.length m.2.2.1)) fun j4 =>
    let e5 := (g_i_Machine_later m (List.getD m.2.2.1 j4 zRule).2.1 0)
    bif (ilt 0 (List.getD m.2.2.1 j4 zRule).2.2.2.2.2.1) then
      Option.bind e5 fun y6 =>
      bif (ilt r.1 0) then
        some ((List.getD m.2.2.1 j4 zRule).2.1, (y6, (r.1, (r.2.1, ((List.getD m.2.2.1 j4 zRule).2.2.2.2.2.1, (0, ()))))))
      else
        Option.bind (g_i_Machine_later m r.1 r.2.1) fun y7 =>
        bif (ieq 1 (List.getD m.2.2.1 j4 zRule).2.2.2.2.2.1) then
          some ((List.getD m.2.2.1 j4 zRule).2.1, (y6, e1))
        else
          some ((List.getD m.2.2.1 j4 zRule).2.1, (y6, (r.1, (y7, ((List.getD m.2.2.1 j4 zRule).2.2.2.2.2.1, (1, ()))))))
    else
      Option.bind e5 fun y8 =>
      some ((List.getD m.2.2.1 j4 zRule).2.1, (y8, e1))
  else
    Option.bind (g_i_Machine_later m r.1 r.2.1) fun y9 =>
    bif (ilt r.2.2.1 0) then
      some (r.1, (y9, r.2.2))
    else
      Option.bind (g_i_Machine_later m r.2.2.1 r.2.2.2.1) fun y10 =>
      bif (ieq e2 r.2.2.2.2.1) then
        some (r.1, (y9, e1))
      else
        some (r.1, (y9, (r.2.2.1, (y10, (r.2.2.2.2.1, (e2, ()))))))


def L_s_l05Find_1 (rec' : ((List Int) × Int × Int × Int × Unit) × (Unit) → Option (((List Int) × Int × Int × Int × Unit) × (Unit))) (x : ((List Int) × Int × Int × Int × Unit) × (Unit)) : Option (((List Int) × Int × Int × Int × Unit) × (Unit)) := match x with
  | ((times, atx, kind, i, ()), (())) =>
    let e1 := ((times, (atx, (kind, (i, ())))), ())
    bif (ilt (iadd .i64 i 1) (((List.length times) : Nat) : Int)) then
      Option.bind (ix (iadd .i64 i 1) (List.length times)) fun j2 =>
      bif (ile (List.getD times j2 (0 : Int)) atx) then
        rec' ((times, (atx, (kind, ((iadd .i64 i 1), ())))), ())
      else
        some e1
    else
      some e1

def g_s_l05Find (times : (List Int)) (atx : Int) (kind : Int) : Option ((Int × (Nat × Unit))) :=
  Option.bind (iter L_s_l05Find_1 fuel ((times, (atx, (kind, (0, ())))), ())) fun y1 =>
  let e2 := (y1.1.2.2.2.1, (0, ()))
  let e3 := (ix y1.1.2.2.2.1 (List.length y1.1.1))
  bif (ieq (iadd .i64 y1.1.2.2.2.1 1) (((List.length y1.1.1) : Nat) : Int)) then
    some e2
  else
    Option.bind e3 fun j4 =>
    bif (ile y1.1.2.1 (List.getD y1.1.1 j4 (0 : Int))) then
      some e2
    else
      bif (ieq y1.1.2.2.1 0) then
        some e2
      else
        Option.bind e3 fun j5 =>
        Option.bind (ix (iadd .i64 y1.1.2.2.2.1 1) (List.length y1.1.1)) fun j6 =>
        Option.bind e3 fun j7 =>
        let e8 := (fdiv .f32 (fofInt .f32 (isub .i64 y1.1.2.1 (List.getD y1.1.1 j5 (0 : Int)))) (fofInt .f32 (isub .i64 (List.getD y1.1.1 j6 (0 : Int)) (List.getD y1.1.1 j7 (0 : Int)))))
        bif (ieq y1.1.2.2.1 2) then
          some (y1.1.2.2.2.1, ((fmul .f32 (fmul .f32 e8 e8) (fsub .f32 1077936128 (fmul .f32 1073741824 e8))), ()))
        else
          some (y1.1.2.2.2.1, (e8, ()))


def g_s_l05Inside (times : (List Int)) (i : Int) (atx : Int) (kind : Int) : Option (Bool) :=
  bif (!(ieq kind 0)) then
    bif (ilt (iadd .i64 i 1) (((List.length times) : Nat) : Int)) then
      Option.bind (ix i (List.length times)) fun j1 =>
      some (ilt (List.getD times j1 (0 : Int)) atx)
    else
      some false
  else
    some false


def g_s_l01Between (a : dVec) (b : dVec) (share : Nat) : Option (dVec) :=
  some (t_s_l01Add a (t_s_l01Scale (t_s_l01Less b a) share))

def t_s_l01Between (a : dVec) (b : dVec) (share : Nat) : dVec :=
  (t_s_l01Add a (t_s_l01Scale (t_s_l01Less b a) share))

theorem q_s_l01Between (a : dVec) (b : dVec) (share : Nat) : g_s_l01Between a b share = some (t_s_l01Between a b share) := rfl


def g_s_l05Root (roots : (List dRootKey)) (atx : Int) (kind : Int) : Option (dVec) :=
  Option.bind (g_s_l05RootAt roots) fun y1 =>
  Option.bind (g_s_l05Find y1 atx kind) fun y2 =>
  Option.bind (g_s_l05Inside y1 y2.1 atx kind) fun y3 =>
  bif y3 then
    Option.bind (ix y2.1 (List.length roots)) fun j4 =>
    Option.bind (ix (iadd .i64 y2.1 1) (List.length roots)) fun j5 =>
    some (t_s_l01Between (List.getD roots j4 zRootKey).2.1 (List.getD roots j5 zRootKey).2.1 y2.2.1)
  else
    Option.bind (ix y2.1 (List.length roots)) fun j6 =>
    some (List.getD roots j6 zRootKey).2.1


def g_s_l02Step (a : Nat) (b : Nat) (share : Nat) : Option (Nat) :=
  some (fadd .f32 a (fmul .f32 share (fsub .f32 b a)))

def t_s_l02Step (a : Nat) (b : Nat) (share : Nat) : Nat :=
  (fadd .f32 a (fmul .f32 share (fsub .f32 b a)))

theorem q_s_l02Step (a : Nat) (b : Nat) (share : Nat) : g_s_l02Step a b share = some (t_s_l02Step a b share) := rfl


def g_s_l02Near (a : dTurn) (b : dTurn) (share : Nat) : Option (dTurn) :=
  Option.bind (g_s_l02Mend ((t_s_l02Step a.1 (t_s_l02Opposite b (t_s_l02Inner a b)).1 share), ((t_s_l02Step a.2.1 (t_s_l02Opposite b (t_s_l02Inner a b)).2.1 share), ((t_s_l02Step a.2.2.1 (t_s_l02Opposite b (t_s_l02Inner a b)).2.2.1 share), ((t_s_l02Step a.2.2.2.1 (t_s_l02Opposite b (t_s_l02Inner a b)).2.2.2.1 share), ()))))) fun y1 =>
  some y1


def g_s_l05Turn (track : (List dKey)) (atx : Int) (kind : Int) : Option (dTurn) :=
  Option.bind (g_s_l05At track) fun y1 =>
  Option.bind (g_s_l05Find y1 atx kind) fun y2 =>
  Option.bind (g_s_l05Inside y1 y2.1 atx kind) fun y3 =>
  bif y3 then
    Option.bind (ix y2.1 (List.length track)) fun j4 =>
    Option.bind (ix (iadd .i64 y2.1 1) (List.length track)) fun j5 =>
    Option.bind (g_s_l02Near (List.getD track j4 zKey).2.1 (List.getD track j5 zKey).2.1 y2.2.1) fun y6 =>
    some y6
  else
    Option.bind (ix y2.1 (List.length track)) fun j7 =>
    some (List.getD track j7 zKey).2.1


def L_s_l05Pose_1 (rec' : (dClip × Int × Int × Int × Unit) × ((dVec × Unit) × (List dTurn) × (dVec × Unit) × Unit) → Option ((Unit) × ((dVec × Unit) × (List dTurn) × (dVec × Unit) × Unit))) (x : (dClip × Int × Int × Int × Unit) × ((dVec × Unit) × (List dTurn) × (dVec × Unit) × Unit)) : Option ((Unit) × ((dVec × Unit) × (List dTurn) × (dVec × Unit) × Unit)) := match x with
  | ((c, atx, t23, t24, ()), ((b0, ()), r1, (b2, ()), ())) =>
    bif (ilt t24 t23) then
      Option.bind (ix t24 (List.length c.2.2.1)) fun j1 =>
      Option.bind (g_s_l05Turn (List.getD c.2.2.1 j1 []) atx c.2.1) fun y2 =>
      bif (Nat.ble ((List.length r1) + 1) 4294967296) then
        rec' ((c, (atx, (t23, ((iadd .i64 t24 1), ())))), ((b0, ()), ((r1 ++ [y2]), ((b2, ()), ()))))
      else
        none
    else
      some ((), ((b0, ()), (r1, ((b2, ()), ()))))

def g_s_l05Pose (c : dClip) (atx : Int) : Option (dPose) :=
  Option.bind (g_s_l05Root c.2.2.2.1 atx c.2.1) fun y1 =>
  Option.bind (iter L_s_l05Pose_1 fuel ((c, (atx, ((((List.length c.2.2.1) : Nat) : Int), (0, ())))), (((0, (0, (0, ()))), ()), ([], ((y1, ()), ()))))) fun y2 =>
  some (y2.2.2.2.1.1, (y2.2.2.1, ()))


def L_s_l03Blend_1 (rec' : (dPose × dPose × Nat × (List Bool) × Int × Int × Unit) × ((dVec × Unit) × (List dTurn) × (dVec × Unit) × Unit) → Option ((Unit) × ((dVec × Unit) × (List dTurn) × (dVec × Unit) × Unit))) (x : (dPose × dPose × Nat × (List Bool) × Int × Int × Unit) × ((dVec × Unit) × (List dTurn) × (dVec × Unit) × Unit)) : Option ((Unit) × ((dVec × Unit) × (List dTurn) × (dVec × Unit) × Unit)) := match x with
  | ((p, q, share, mask, t36, t37, ()), ((b0, ()), r1, (b2, ()), ())) =>
    let e1 := (p, (q, (share, (mask, (t36, ((iadd .i64 t37 1), ()))))))
    bif (ilt t37 t36) then
      Option.bind (ix t37 (List.length p.2.1)) fun j2 =>
      Option.bind (ix t37 (List.length mask)) fun j3 =>
      bif (List.getD mask j3 false) then
        Option.bind (ix t37 (List.length p.2.1)) fun j4 =>
        Option.bind (ix t37 (List.length q.2.1)) fun j5 =>
        Option.bind (g_s_l02Near (List.getD p.2.1 j4 zTurn) (List.getD q.2.1 j5 zTurn) share) fun y6 =>
        bif (Nat.ble ((List.length r1) + 1) 4294967296) then
          rec' (e1, ((b0, ()), ((r1 ++ [y6]), ((b2, ()), ()))))
        else
          none
      else
        bif (Nat.ble ((List.length r1) + 1) 4294967296) then
          rec' (e1, ((b0, ()), ((r1 ++ [(List.getD p.2.1 j2 zTurn)]), ((b2, ()), ()))))
        else
          none
    else
      some ((), ((b0, ()), (r1, ((b2, ()), ()))))

def g_s_l03Blend (p : dPose) (q : dPose) (share : Nat) (mask : (List Bool)) : Option (dPose) :=
  let e1 := ((0, (0, (0, ()))), ())
  let e2 := (p, (q, (share, (mask, ((((List.length p.2.1) : Nat) : Int), (0, ()))))))
  Option.bind (ix 0 (List.length mask)) fun j3 =>
  bif (List.getD mask j3 false) then
    Option.bind (iter L_s_l03Blend_1 fuel (e2, (e1, ([], (((t_s_l01Between p.1 q.1 share), ()), ()))))) fun y4 =>
    some (y4.2.2.2.1.1, (y4.2.2.1, ()))
  else
    Option.bind (iter L_s_l03Blend_1 fuel (e2, (e1, ([], ((p.1, ()), ()))))) fun y5 =>
    some (y5.2.2.2.1.1, (y5.2.2.1, ()))


def L_s_l07Pose_1 (rec' : (dRun × Int × Int × Unit) × ((dVec × Unit) × (List dTurn) × (dVec × Unit) × (List dTurn) × (dVec × Unit) × (List Bool) × Unit) → Option ((dRun × Unit) × ((dVec × Unit) × (List dTurn) × (dVec × Unit) × (List dTurn) × (dVec × Unit) × (List Bool) × Unit))) (x : (dRun × Int × Int × Unit) × ((dVec × Unit) × (List dTurn) × (dVec × Unit) × (List dTurn) × (dVec × Unit) × (List Bool) × Unit)) : Option ((dRun × Unit) × ((dVec × Unit) × (List dTurn) × (dVec × Unit) × (List dTurn) × (dVec × Unit) × (List Bool) × Unit)) := match x with
  | ((r, t59, t60, ()), ((b0, ()), r1, (b2, ()), r3, (b4, ()), r5, ())) =>
    bif (ilt t60 t59) then
      bif (Nat.ble ((List.length r5) + 1) 4294967296) then
        rec' ((r, (t59, ((iadd .i64 t60 1), ()))), ((b0, ()), (r1, ((b2, ()), (r3, ((b4, ()), ((r5 ++ [true]), ())))))))
      else
        none
    else
      some ((r, ()), ((b0, ()), (r1, ((b2, ()), (r3, ((b4, ()), (r5, ())))))))

def g_s_l07Pose (m : dMachine) (r : dRun) : Option (dPose) :=
  Option.bind (ix r.1 (List.length m.2.1)) fun j1 =>
  Option.bind (ix (List.getD m.2.1 j1 zState).1 (List.length m.1)) fun j2 =>
  Option.bind (g_s_l05Pose (List.getD m.1 j2 zClip) r.2.1) fun y3 =>
  bif (ilt r.2.2.1 0) then
    some y3
  else
    Option.bind (ix r.2.2.1 (List.length m.2.1)) fun j4 =>
    Option.bind (ix (List.getD m.2.1 j4 zState).1 (List.length m.1)) fun j5 =>
    Option.bind (g_s_l05Pose (List.getD m.1 j5 zClip) r.2.2.2.1) fun y6 =>
    Option.bind (iter L_s_l07Pose_1 fuel ((r, ((((List.length y3.2.1) : Nat) : Int), (0, ()))), (((0, (0, (0, ()))), ()), (y3.2.1, ((y3.1, ()), (y6.2.1, ((y6.1, ()), ([], ())))))))) fun y7 =>
    Option.bind (g_s_l03Blend (y7.2.2.2.2.2.1.1, (y7.2.2.2.2.1, ())) (y7.2.2.2.1.1, (y7.2.2.1, ())) (fdiv .f32 (fofInt .f32 y7.1.1.2.2.2.2.2.1) (fofInt .f32 y7.1.1.2.2.2.2.1)) y7.2.2.2.2.2.2.1) fun y8 =>
    some y8


def g_i_rootTrack_2 (k : dRootKey) (atx : Int) : Option (dRootKey) :=
  some (atx, k.2)

def t_i_rootTrack_2 (k : dRootKey) (atx : Int) : dRootKey :=
  (atx, k.2)

theorem q_i_rootTrack_2 (k : dRootKey) (atx : Int) : g_i_rootTrack_2 k atx = some (t_i_rootTrack_2 k atx) := rfl


def g_i_share (fromx : Int) (atx : Int) (tox : Int) : Option (Nat) :=
  some (fdiv .f32 (fofInt .f32 (isub .i64 atx fromx)) (fofInt .f32 (isub .i64 tox fromx)))

def t_i_share (fromx : Int) (atx : Int) (tox : Int) : Nat :=
  (fdiv .f32 (fofInt .f32 (isub .i64 atx fromx)) (fofInt .f32 (isub .i64 tox fromx)))

theorem q_i_share (fromx : Int) (atx : Int) (tox : Int) : g_i_share fromx atx tox = some (t_i_share fromx atx tox) := rfl


def g_i_BetweenVectors (a : dVec) (b : dVec) (share : Nat) : Option (dVec) :=
  some (t_i_AddVectors a (t_i_ScaleVector (t_i_LessVectors b a) share))

def t_i_BetweenVectors (a : dVec) (b : dVec) (share : Nat) : dVec :=
  (t_i_AddVectors a (t_i_ScaleVector (t_i_LessVectors b a) share))

theorem q_i_BetweenVectors (a : dVec) (b : dVec) (share : Nat) : g_i_BetweenVectors a b share = some (t_i_BetweenVectors a b share) := rfl


def g_i_rootTrack_3 (p : dRootKey) (q : dRootKey) (share : Nat) : Option (dRootKey) :=
  some (p.1, ((t_i_BetweenVectors p.2.1 q.2.1 share), ()))

def t_i_rootTrack_3 (p : dRootKey) (q : dRootKey) (share : Nat) : dRootKey :=
  (p.1, ((t_i_BetweenVectors p.2.1 q.2.1 share), ()))

theorem q_i_rootTrack_3 (p : dRootKey) (q : dRootKey) (share : Nat) : g_i_rootTrack_3 p q share = some (t_i_rootTrack_3 p q share) := rfl


def L_i_track_i_RootKey_sample_1 (rec' : ((List dRootKey) × Int × Int × Int × Unit) × (((Unit × (Unit × (Unit × Unit))) × Unit) × (dRootKey × Unit) × Unit) → Option (((List dRootKey) × Int × Int × Int × Unit) × (((Unit × (Unit × (Unit × Unit))) × Unit) × (dRootKey × Unit) × Unit))) (x : ((List dRootKey) × Int × Int × Int × Unit) × (((Unit × (Unit × (Unit × Unit))) × Unit) × (dRootKey × Unit) × Unit)) : Option (((List dRootKey) × Int × Int × Int × Unit) × (((Unit × (Unit × (Unit × Unit))) × Unit) × (dRootKey × Unit) × Unit)) := match x with
  | ((keys, kind, atx, i, ()), ((b0, ()), (b1, ()), ())) =>
    let e1 := ((((), ((), ((), ()))), ()), ((b1, ()), ()))
    let e2 := ((keys, (kind, (atx, (i, ())))), e1)
    bif (ilt i (((List.length keys) : Nat) : Int)) then
      Option.bind (ix i (List.length keys)) fun j3 =>
      bif (ile (t_i_rootTrack_1 (List.getD keys j3 zRootKey)) atx) then
        rec' ((keys, (kind, (atx, ((iadd .i64 i 1), ())))), e1)
      else
        some e2
    else
      some e2

def g_i_track_i_RootKey_sample (t : (Unit × (Unit × (Unit × Unit)))) (keys : (List dRootKey)) (kind : Int) (atx : Int) : Option (dRootKey) :=
  Option.bind (iter L_i_track_i_RootKey_sample_1 fuel ((keys, (kind, (atx, (0, ())))), ((((), ((), ((), ()))), ()), (((0, ((0, (0, (0, ()))), ())), ()), ())))) fun y1 =>
  let e2 := (ix (isub .i64 y1.1.2.2.2.1 1) (List.length y1.1.1))
  bif (ieq y1.1.2.2.2.1 0) then
    Option.bind (ix 0 (List.length y1.1.1)) fun j3 =>
    some (t_i_rootTrack_2 (List.getD y1.1.1 j3 zRootKey) y1.1.2.2.1)
  else
    bif (ieq y1.1.2.2.2.1 (((List.length y1.1.1) : Nat) : Int)) then
      Option.bind e2 fun j4 =>
      some (t_i_rootTrack_2 (List.getD y1.1.1 j4 zRootKey) y1.1.2.2.1)
    else
      Option.bind e2 fun j5 =>
      bif (ieq (t_i_rootTrack_1 (List.getD y1.1.1 j5 zRootKey)) y1.1.2.2.1) then
        Option.bind e2 fun j6 =>
        some (t_i_rootTrack_2 (List.getD y1.1.1 j6 zRootKey) y1.1.2.2.1)
      else
        bif (ieq y1.1.2.1 0) then
          Option.bind e2 fun j7 =>
          some (t_i_rootTrack_2 (List.getD y1.1.1 j7 zRootKey) y1.1.2.2.1)
        else
          Option.bind e2 fun j8 =>
          Option.bind (ix y1.1.2.2.2.1 (List.length y1.1.1)) fun j9 =>
          let e10 := (t_i_share (t_i_rootTrack_1 (List.getD y1.1.1 j8 zRootKey)) y1.1.2.2.1 (t_i_rootTrack_1 (List.getD y1.1.1 j9 zRootKey)))
          bif (ieq y1.1.2.1 2) then
            some (t_i_rootTrack_2 (t_i_rootTrack_3 (List.getD y1.1.1 j8 zRootKey) (List.getD y1.1.1 j9 zRootKey) (fmul .f32 (fmul .f32 e10 e10) (fsub .f32 1077936128 (fmul .f32 1073741824 e10)))) y1.1.2.2.1)
          else
            some (t_i_rootTrack_2 (t_i_rootTrack_3 (List.getD y1.1.1 j8 zRootKey) (List.getD y1.1.1 j9 zRootKey) e10) y1.1.2.2.1)


def g_i_Clip_root (c : dClip) (atx : Int) : Option (dVec) :=
  Option.bind (g_i_track_i_RootKey_sample ((), ((), ((), ()))) c.2.2.2.1 c.2.1 atx) fun y1 =>
  some y1.2.1


def g_i_turnTrack_2 (k : dKey) (atx : Int) : Option (dKey) :=
  some (atx, k.2)

def t_i_turnTrack_2 (k : dKey) (atx : Int) : dKey :=
  (atx, k.2)

theorem q_i_turnTrack_2 (k : dKey) (atx : Int) : g_i_turnTrack_2 k atx = some (t_i_turnTrack_2 k atx) := rfl


def g_i_between (a : Nat) (b : Nat) (share : Nat) : Option (Nat) :=
  some (fadd .f32 a (fmul .f32 share (fsub .f32 b a)))

def t_i_between (a : Nat) (b : Nat) (share : Nat) : Nat :=
  (fadd .f32 a (fmul .f32 share (fsub .f32 b a)))

theorem q_i_between (a : Nat) (b : Nat) (share : Nat) : g_i_between a b share = some (t_i_between a b share) := rfl


def g_i_NearTurn (a : dTurn) (b : dTurn) (share : Nat) : Option (dTurn) :=
  bif (flt .f32 (t_i_InnerOfTurns a b) 0) then
    Option.bind (g_i_MendTurn ((t_i_between a.1 (t_i_Turn_opposite b).1 share), ((t_i_between a.2.1 (t_i_Turn_opposite b).2.1 share), ((t_i_between a.2.2.1 (t_i_Turn_opposite b).2.2.1 share), ((t_i_between a.2.2.2.1 (t_i_Turn_opposite b).2.2.2.1 share), ()))))) fun y1 =>
    some y1
  else
    Option.bind (g_i_MendTurn ((t_i_between a.1 b.1 share), ((t_i_between a.2.1 b.2.1 share), ((t_i_between a.2.2.1 b.2.2.1 share), ((t_i_between a.2.2.2.1 b.2.2.2.1 share), ()))))) fun y2 =>
    some y2


def g_i_turnTrack_3 (p : dKey) (q : dKey) (share : Nat) : Option (dKey) :=
  Option.bind (g_i_NearTurn p.2.1 q.2.1 share) fun y1 =>
  some (p.1, (y1, ()))


def L_i_track_i_Key_sample_1 (rec' : ((List dKey) × Int × Int × Int × Unit) × (((Unit × (Unit × (Unit × Unit))) × Unit) × (dKey × Unit) × Unit) → Option (((List dKey) × Int × Int × Int × Unit) × (((Unit × (Unit × (Unit × Unit))) × Unit) × (dKey × Unit) × Unit))) (x : ((List dKey) × Int × Int × Int × Unit) × (((Unit × (Unit × (Unit × Unit))) × Unit) × (dKey × Unit) × Unit)) : Option (((List dKey) × Int × Int × Int × Unit) × (((Unit × (Unit × (Unit × Unit))) × Unit) × (dKey × Unit) × Unit)) := match x with
  | ((keys, kind, atx, i, ()), ((b0, ()), (b1, ()), ())) =>
    let e1 := ((((), ((), ((), ()))), ()), ((b1, ()), ()))
    let e2 := ((keys, (kind, (atx, (i, ())))), e1)
    bif (ilt i (((List.length keys) : Nat) : Int)) then
      Option.bind (ix i (List.length keys)) fun j3 =>
      bif (ile (t_i_turnTrack_1 (List.getD keys j3 zKey)) atx) then
        rec' ((keys, (kind, (atx, ((iadd .i64 i 1), ())))), e1)
      else
        some e2
    else
      some e2

def g_i_track_i_Key_sample (t : (Unit × (Unit × (Unit × Unit)))) (keys : (List dKey)) (kind : Int) (atx : Int) : Option (dKey) :=
  Option.bind (iter L_i_track_i_Key_sample_1 fuel ((keys, (kind, (atx, (0, ())))), ((((), ((), ((), ()))), ()), (((0, ((0, (0, (0, (0, ())))), ())), ()), ())))) fun y1 =>
  let e2 := (ix (isub .i64 y1.1.2.2.2.1 1) (List.length y1.1.1))
  bif (ieq y1.1.2.2.2.1 0) then
    Option.bind (ix 0 (List.length y1.1.1)) fun j3 =>
    some (t_i_turnTrack_2 (List.getD y1.1.1 j3 zKey) y1.1.2.2.1)
  else
    bif (ieq y1.1.2.2.2.1 (((List.length y1.1.1) : Nat) : Int)) then
      Option.bind e2 fun j4 =>
      some (t_i_turnTrack_2 (List.getD y1.1.1 j4 zKey) y1.1.2.2.1)
    else
      Option.bind e2 fun j5 =>
      bif (ieq (t_i_turnTrack_1 (List.getD y1.1.1 j5 zKey)) y1.1.2.2.1) then
        Option.bind e2 fun j6 =>
        some (t_i_turnTrack_2 (List.getD y1.1.1 j6 zKey) y1.1.2.2.1)
      else
        bif (ieq y1.1.2.1 0) then
          Option.bind e2 fun j7 =>
          some (t_i_turnTrack_2 (List.getD y1.1.1 j7 zKey) y1.1.2.2.1)
        else
          Option.bind e2 fun j8 =>
          Option.bind (ix y1.1.2.2.2.1 (List.length y1.1.1)) fun j9 =>
          let e10 := (t_i_share (t_i_turnTrack_1 (List.getD y1.1.1 j8 zKey)) y1.1.2.2.1 (t_i_turnTrack_1 (List.getD y1.1.1 j9 zKey)))
          bif (ieq y1.1.2.1 2) then
            Option.bind (g_i_turnTrack_3 (List.getD y1.1.1 j8 zKey) (List.getD y1.1.1 j9 zKey) (fmul .f32 (fmul .f32 e10 e10) (fsub .f32 1077936128 (fmul .f32 1073741824 e10)))) fun y11 =>
            some (t_i_turnTrack_2 y11 y1.1.2.2.1)
          else
            Option.bind (g_i_turnTrack_3 (List.getD y1.1.1 j8 zKey) (List.getD y1.1.1 j9 zKey) e10) fun y12 =>
            some (t_i_turnTrack_2 y12 y1.1.2.2.1)


def L_i_Clip_sample_1 (rec' : (dClip × Int × (List (List dKey)) × Int × Int × Unit) × ((dVec × Unit) × (List dTurn) × (dVec × Unit) × Unit) → Option ((Unit) × ((dVec × Unit) × (List dTurn) × (dVec × Unit) × Unit))) (x : (dClip × Int × (List (List dKey)) × Int × Int × Unit) × ((dVec × Unit) × (List dTurn) × (dVec × Unit) × Unit)) : Option ((Unit) × ((dVec × Unit) × (List dTurn) × (dVec × Unit) × Unit)) := match x with
  | ((c, atx, t21, t22, t23, ()), ((b0, ()), r1, (b2, ()), ())) =>
    bif (ilt t23 t22) then
      Option.bind (ix t23 (List.length t21)) fun j1 =>
      Option.bind (g_i_track_i_Key_sample ((), ((), ((), ()))) (List.getD t21 j1 []) c.2.1 atx) fun y2 =>
      Option.bind (ix t23 (List.length r1)) fun j3 =>
      rec' ((c, (atx, (t21, (t22, ((iadd .i64 t23 1), ()))))), ((b0, ()), ((List.set r1 j3 y2.2.1), ((b2, ()), ()))))
    else
      some ((), ((b0, ()), (r1, ((b2, ()), ()))))

def g_i_Clip_sample (c : dClip) (atx : Int) : Option (dPose) :=
  Option.bind (g_i_Clip_root c atx) fun y1 =>
  bif (mkOk (((List.length c.2.2.1) : Nat) : Int) (((List.length c.2.2.1) : Nat) : Int)) then
    Option.bind (iter L_i_Clip_sample_1 fuel ((c, (atx, (c.2.2.1, ((((List.length c.2.2.1) : Nat) : Int), (0, ()))))), (((0, (0, (0, ()))), ()), ((List.replicate (List.length c.2.2.1) (0, (0, (0, (0, ()))))), ((y1, ()), ()))))) fun y2 =>
    some (y2.2.2.2.1.1, (y2.2.2.1, ()))
  else
    none


def g_i_Machine_at (m : dMachine) (state : Int) (atx : Int) : Option (dPose) :=
  Option.bind (ix state (List.length m.2.1)) fun j1 =>
  Option.bind (ix (List.getD m.2.1 j1 zState).1 (List.length m.1)) fun j2 =>
  Option.bind (g_i_Clip_sample (List.getD m.1 j2 zClip) atx) fun y3 =>
  some y3


def L_slices_Repeat_bool_bool_1 (rec' : (Int × Unit) × ((List Bool) × Unit) → Option ((Unit) × ((List Bool) × Unit))) (x : (Int × Unit) × ((List Bool) × Unit)) : Option ((Unit) × ((List Bool) × Unit)) := match x with
  | ((n, ()), (r0, ())) =>
    let e1 := ((decide ((0 : Int) ≤ n)) && (decide ((n : Int) ≤ (((List.length r0) : Nat) : Int))))
    let e2 := (List.take ((List.length r0) - (Int.toNat n)) (List.take (Int.toNat n) (List.drop 0 r0)))
    bif (ilt n (((List.length r0) : Nat) : Int)) then
      bif e1 then
        bif e1 then
          rec' (((iadd .i64 n (((List.length e2) : Nat) : Int)), ()), ((putL r0 (Int.toNat n) e2), ()))
        else
          none
      else
        none
    else
      some ((), (r0, ()))

def g_slices_Repeat_bool_bool (xx : (List Bool)) (count : Int) : Option ((List Bool)) :=
  let e1 := (iconv .i64 (t_math_bits_Mul (iconv .u64 (((List.length xx) : Nat) : Int)) (iconv .u64 count)).2.1)
  let e2 := (List.replicate (Int.toNat e1) false)
  let e3 := (List.take (List.length e2) xx)
  bif (ilt count 0) then
    none
  else
    bif (ilt 0 (t_math_bits_Mul (iconv .u64 (((List.length xx) : Nat) : Int)) (iconv .u64 count)).1) then
      none
    else
      bif (ilt 9223372036854775807 (t_math_bits_Mul (iconv .u64 (((List.length xx) : Nat) : Int)) (iconv .u64 count)).2.1) then
        none
      else
        bif (mkOk e1 e1) then
          Option.bind (iter L_slices_Repeat_bool_bool_1 fuel (((((List.length e3) : Nat) : Int), ()), ((putL e2 0 e3), ()))) fun y4 =>
          some y4.2.1
        else
          none


def g_slices_Clone_i_Turn_i_Turn (s : (List dTurn)) : Option ((List dTurn)) :=
  bif (Nat.beq (List.length s) 0) then
    bothSame (
      some ([] : List dTurn)
    ) (
      bif (Nat.ble (0 + (List.length s)) 4294967296) then
        some ([] ++ s)
      else
        none
    )
  else
    bif (Nat.ble (0 + (List.length s)) 4294967296) then
      some ([] ++ s)
    else
      none


def L_i_BlendPoses_1 (rec' : (Nat × (List Bool) × Int × Int × Unit) × ((dPose × Unit) × (dPose × Unit) × (dVec × Unit) × (List dTurn) × (dVec × Unit) × Unit) → Option ((Unit) × ((dVec × Unit) × (List dTurn) × (dVec × Unit) × Unit))) (x : (Nat × (List Bool) × Int × Int × Unit) × ((dPose × Unit) × (dPose × Unit) × (dVec × Unit) × (List dTurn) × (dVec × Unit) × Unit)) : Option ((Unit) × ((dVec × Unit) × (List dTurn) × (dVec × Unit) × Unit)) := match x with
  | ((share, t42, t43, t44, ()), ((b0, ()), (b1, ()), (b2, ()), r3, (b4, ()), ())) =>
    let e1 := (share, (t42, (t43, ((iadd .i64 t44 1), ()))))
    let e2 := ((b2, ()), (r3, ((b4, ()), ())))
    bif (ilt t44 t43) then
      Option.bind (ix t44 (List.length t42)) fun j3 =>
      bif (List.getD t42 j3 false) then
        Option.bind (ix t44 (List.length b0.2.1)) fun j4 =>
        Option.bind (ix t44 (List.length b1.2.1)) fun j5 =>
        Option.bind (g_i_NearTurn (List.getD b0.2.1 j4 zTurn) (List.getD b1.2.1 j5 zTurn) share) fun y6 =>
        Option.bind (ix t44 (List.length r3)) fun j7 =>
        rec' (e1, ((b0, ()), ((b1, ()), ((b2, ()), ((List.set r3 j7 y6), ((b4, ()), ()))))))
      else
        rec' (e1, ((b0, ()), ((b1, ()), e2)))
    else
      some ((), e2)

def g_i_BlendPoses (p : dPose) (q : dPose) (share : Nat) (mask : (List Bool)) : Option ((dPose × (Bool × Unit))) :=
  let e1 := ((0, (0, (0, ()))), ())
  let e2 := (share, (mask, ((((List.length mask) : Nat) : Int), (0, ()))))
  let e3 := (((0, (0, (0, ()))), (([] : List dTurn), ())), (false, ()))
  bif (!(t_i_arePair p q)) then
    some e3
  else
    bif (!(ieq (((List.length mask) : Nat) : Int) (((List.length p.2.1) : Nat) : Int))) then
      some e3
    else
      Option.bind (g_slices_Clone_i_Turn_i_Turn p.2.1) fun y4 =>
      Option.bind (ix 0 (List.length mask)) fun j5 =>
      bif (List.getD mask j5 false) then
        Option.bind (iter L_i_BlendPoses_1 fuel (e2, ((p, ()), ((q, ()), (e1, (y4, (((t_i_BetweenVectors p.1 q.1 share), ()), ()))))))) fun y6 =>
        some ((y6.2.2.2.1.1, (y6.2.2.1, ())), (true, ()))
      else
        Option.bind (iter L_i_BlendPoses_1 fuel (e2, ((p, ()), ((q, ()), (e1, (y4, ((p.1, ()), ()))))))) fun y7 =>
        some ((y7.2.2.2.1.1, (y7.2.2.1, ())), (true, ()))


def g_i_blendAll (p : dPose) (q : dPose) (share : Nat) : Option ((dPose × (Bool × Unit))) :=
  Option.bind (g_slices_Repeat_bool_bool [true] (((List.length p.2.1) : Nat) : Int)) fun y1 =>
  Option.bind (g_i_BlendPoses p q share y1) fun y2 =>
  some y2


def g_i_Machine_pose (m : dMachine) (r : dRun) : Option (dPose) :=
  Option.bind (g_i_Machine_at m r.1 r.2.1) fun y1 =>
  bif (ile 0 r.2.2.1) then
    Option.bind (g_i_Machine_at m r.2.2.1 r.2.2.2.1) fun y2 =>
    Option.bind (g_i_blendAll y2 y1 (fdiv .f32 (fofInt .f32 r.2.2.2.2.2.1) (fofInt .f32 r.2.2.2.2.1))) fun y3 =>
    some y3.1
  else
    some y1


def L_w_markKeyS_1 (rec' : (Int × Int × Unit) × ((List dKey) × Unit) → Option ((Int × Unit) × ((List dKey) × Unit))) (x : (Int × Int × Unit) × ((List dKey) × Unit)) : Option ((Int × Unit) × ((List dKey) × Unit)) := match x with
  | ((k, i, ()), (r0, ())) =>
    let e1 := (iadd .i64 (iadd .i64 (iadd .i64 (iadd .i64 k 1) 1) 1) 1)
    bif (ilt i (((List.length r0) : Nat) : Int)) then
      Option.bind (ix i (List.length r0)) fun j2 =>
      let e3 := (List.set r0 j2 (k, (List.getD r0 j2 zKey).2))
      Option.bind (ix i (List.length e3)) fun j4 =>
      let e5 := (List.getD e3 j4 zKey)
      let e6 := (List.set e3 j4 (e5.1, (((fofInt .f32 (iadd .i64 k 1)), e5.2.1.2), ())))
      Option.bind (ix i (List.length e6)) fun j7 =>
      let e8 := (List.getD e6 j7 zKey)
      let e9 := (List.set e6 j7 (e8.1, ((e8.2.1.1, ((fofInt .f32 (iadd .i64 (iadd .i64 k 1) 1)), e8.2.1.2.2)), ())))
      Option.bind (ix i (List.length e9)) fun j10 =>
      let e11 := (List.getD e9 j10 zKey)
      let e12 := (List.set e9 j10 (e11.1, ((e11.2.1.1, (e11.2.1.2.1, ((fofInt .f32 (iadd .i64 (iadd .i64 (iadd .i64 k 1) 1) 1)), e11.2.1.2.2.2))), ())))
      Option.bind (ix i (List.length e12)) fun j13 =>
      let e14 := (List.getD e12 j13 zKey)
      rec' (((iadd .i64 e1 1), ((iadd .i64 i 1), ())), ((List.set e12 j13 (e14.1, ((e14.2.1.1, (e14.2.1.2.1, (e14.2.1.2.2.1, ((fofInt .f32 e1), ())))), ()))), ()))
    else
      some ((k, ()), (r0, ()))

def g_w_markKeyS (a : (List dKey)) (k : Int) : Option (Int × ((List dKey) × Int × Unit)) :=
  Option.bind (iter L_w_markKeyS_1 fuel ((k, (0, ())), (a, ()))) fun y1 =>
  some (y1.1.1, (y1.2.1, (k, ())))


def L_w_markKeySS_1 (rec' : (Int × Int × Unit) × ((List (List dKey)) × Unit) → Option ((Int × Unit) × ((List (List dKey)) × Unit))) (x : (Int × Int × Unit) × ((List (List dKey)) × Unit)) : Option ((Int × Unit) × ((List (List dKey)) × Unit)) := match x with
  | ((k, i, ()), (r0, ())) =>
    bif (ilt i (((List.length r0) : Nat) : Int)) then
      Option.bind (ix i (List.length r0)) fun j1 =>
      Option.bind (g_w_markKeyS (List.getD r0 j1 []) k) fun y2 =>
      rec' ((y2.1, ((iadd .i64 i 1), ())), ((List.set r0 j1 y2.2.1), ()))
    else
      some ((k, ()), (r0, ()))

def g_w_markKeySS (a : (List (List dKey))) (k : Int) : Option (Int × ((List (List dKey)) × Int × Unit)) :=
  Option.bind (iter L_w_markKeySS_1 fuel ((k, (0, ())), (a, ()))) fun y1 =>
  some (y1.1.1, (y1.2.1, (k, ())))


def L_w_markRootKeyS_1 (rec' : (Int × Int × Unit) × ((List dRootKey) × Unit) → Option ((Int × Unit) × ((List dRootKey) × Unit))) (x : (Int × Int × Unit) × ((List dRootKey) × Unit)) : Option ((Int × Unit) × ((List dRootKey) × Unit)) := match x with
  | ((k, i, ()), (r0, ())) =>
    bif (ilt i (((List.length r0) : Nat) : Int)) then
      Option.bind (ix i (List.length r0)) fun j1 =>
      let e2 := (List.set r0 j1 (k, (List.getD r0 j1 zRootKey).2))
      Option.bind (ix i (List.length e2)) fun j3 =>
      let e4 := (List.getD e2 j3 zRootKey)
      let e5 := (List.set e2 j3 (e4.1, (((fofInt .f32 (iadd .i64 k 1)), e4.2.1.2), ())))
      Option.bind (ix i (List.length e5)) fun j6 =>
      let e7 := (List.getD e5 j6 zRootKey)
      let e8 := (List.set e5 j6 (e7.1, ((e7.2.1.1, ((fofInt .f32 (iadd .i64 (iadd .i64 k 1) 1)), e7.2.1.2.2)), ())))
      Option.bind (ix i (List.length e8)) fun j9 =>
      let e10 := (List.getD e8 j9 zRootKey)
      rec' (((iadd .i64 (iadd .i64 (iadd .i64 (iadd .i64 k 1) 1) 1) 1), ((iadd .i64 i 1), ())), ((List.set e8 j9 (e10.1, ((e10.2.1.1, (e10.2.1.2.1, ((fofInt .f32 (iadd .i64 (iadd .i64 (iadd .i64 k 1) 1) 1)), ()))), ()))), ()))
    else
      some ((k, ()), (r0, ()))

def g_w_markRootKeyS (a : (List dRootKey)) (k : Int) : Option (Int × ((List dRootKey) × Int × Unit)) :=
  Option.bind (iter L_w_markRootKeyS_1 fuel ((k, (0, ())), (a, ()))) fun y1 =>
  some (y1.1.1, (y1.2.1, (k, ())))


def L_w_markClipS_1 (rec' : (Int × Int × Unit) × ((List dClip) × Unit) → Option ((Int × Unit) × ((List dClip) × Unit))) (x : (Int × Int × Unit) × ((List dClip) × Unit)) : Option ((Int × Unit) × ((List dClip) × Unit)) := match x with
  | ((k, i, ()), (r0, ())) =>
    bif (ilt i (((List.length r0) : Nat) : Int)) then
      Option.bind (ix i (List.length r0)) fun j1 =>
      let e2 := (List.set r0 j1 (k, (List.getD r0 j1 zClip).2))
      Option.bind (ix i (List.length e2)) fun j3 =>
      let e4 := (List.getD e2 j3 zClip)
      let e5 := (List.set e2 j3 (e4.1, ((iadd .i64 k 1), e4.2.2)))
      Option.bind (ix i (List.length e5)) fun j6 =>
      let e7 := (List.getD e5 j6 zClip)
      Option.bind (g_w_markKeySS e7.2.2.1 (iadd .i64 (iadd .i64 k 1) 1)) fun y8 =>
      let e9 := (List.set e5 j6 (e7.1, (e7.2.1, (y8.2.1, e7.2.2.2))))
      Option.bind (ix i (List.length e9)) fun j10 =>
      let e11 := (List.getD e9 j10 zClip)
      Option.bind (g_w_markRootKeyS e11.2.2.2.1 y8.1) fun y12 =>
      rec' ((y12.1, ((iadd .i64 i 1), ())), ((List.set e9 j10 (e11.1, (e11.2.1, (e11.2.2.1, (y12.2.1, ()))))), ()))
    else
      some ((k, ()), (r0, ()))

def g_w_markClipS (a : (List dClip)) (k : Int) : Option (Int × ((List dClip) × Int × Unit)) :=
  Option.bind (iter L_w_markClipS_1 fuel ((k, (0, ())), (a, ()))) fun y1 =>
  some (y1.1.1, (y1.2.1, (k, ())))


def L_w_markStateS_1 (rec' : (Int × Int × Unit) × ((List dState) × Unit) → Option ((Int × Unit) × ((List dState) × Unit))) (x : (Int × Int × Unit) × ((List dState) × Unit)) : Option ((Int × Unit) × ((List dState) × Unit)) := match x with
  | ((k, i, ()), (r0, ())) =>
    bif (ilt i (((List.length r0) : Nat) : Int)) then
      Option.bind (ix i (List.length r0)) fun j1 =>
      let e2 := (List.set r0 j1 (k, (List.getD r0 j1 zState).2))
      Option.bind (ix i (List.length e2)) fun j3 =>
      let e4 := (List.getD e2 j3 zState)
      let e5 := (List.set e2 j3 (e4.1, ((iadd .i64 k 1), e4.2.2)))
      Option.bind (ix i (List.length e5)) fun j6 =>
      let e7 := (List.getD e5 j6 zState)
      rec' (((iadd .i64 (iadd .i64 (iadd .i64 k 1) 1) 1), ((iadd .i64 i 1), ())), ((List.set e5 j6 (e7.1, (e7.2.1, ((ieq (irem .i64 (iadd .i64 (iadd .i64 k 1) 1) 3) 0), ())))), ()))
    else
      some ((k, ()), (r0, ()))

def g_w_markStateS (a : (List dState)) (k : Int) : Option (Int × ((List dState) × Int × Unit)) :=
  Option.bind (iter L_w_markStateS_1 fuel ((k, (0, ())), (a, ()))) fun y1 =>
  some (y1.1.1, (y1.2.1, (k, ())))


def L_w_markRuleS_1 (rec' : (Int × Int × Unit) × ((List dRule) × Unit) → Option ((Int × Unit) × ((List dRule) × Unit))) (x : (Int × Int × Unit) × ((List dRule) × Unit)) : Option ((Int × Unit) × ((List dRule) × Unit)) := match x with
  | ((k, i, ()), (r0, ())) =>
    let e1 := (iadd .i64 (iadd .i64 (iadd .i64 (iadd .i64 k 1) 1) 1) 1)
    let e2 := (iadd .i64 e1 1)
    bif (ilt i (((List.length r0) : Nat) : Int)) then
      Option.bind (ix i (List.length r0)) fun j3 =>
      let e4 := (List.set r0 j3 (k, (List.getD r0 j3 zRule).2))
      Option.bind (ix i (List.length e4)) fun j5 =>
      let e6 := (List.getD e4 j5 zRule)
      let e7 := (List.set e4 j5 (e6.1, ((iadd .i64 k 1), e6.2.2)))
      Option.bind (ix i (List.length e7)) fun j8 =>
      let e9 := (List.getD e7 j8 zRule)
      let e10 := (List.set e7 j8 (e9.1, (e9.2.1, ((iadd .i64 (iadd .i64 k 1) 1), e9.2.2.2))))
      Option.bind (ix i (List.length e10)) fun j11 =>
      let e12 := (List.getD e10 j11 zRule)
      let e13 := (List.set e10 j11 (e12.1, (e12.2.1, (e12.2.2.1, ((iadd .i64 (iadd .i64 (iadd .i64 k 1) 1) 1), e12.2.2.2.2)))))
      Option.bind (ix i (List.length e13)) fun j14 =>
      let e15 := (List.getD e13 j14 zRule)
      let e16 := (List.set e13 j14 (e15.1, (e15.2.1, (e15.2.2.1, (e15.2.2.2.1, ((fofInt .f32 e1), e15.2.2.2.2.2))))))
      Option.bind (ix i (List.length e16)) fun j17 =>
      let e18 := (List.getD e16 j17 zRule)
      rec' (((iadd .i64 e2 1), ((iadd .i64 i 1), ())), ((List.set e16 j17 (e18.1, (e18.2.1, (e18.2.2.1, (e18.2.2.2.1, (e18.2.2.2.2.1, (e2, ()))))))), ()))
    else
      some ((k, ()), (r0, ()))

def g_w_markRuleS (a : (List dRule)) (k : Int) : Option (Int × ((List dRule) × Int × Unit)) :=
  Option.bind (iter L_w_markRuleS_1 fuel ((k, (0, ())), (a, ()))) fun y1 =>
  some (y1.1.1, (y1.2.1, (k, ())))


def g_w_markMachine (a : dMachine) (k : Int) : Option (Int × (dMachine × Int × Unit)) :=
  Option.bind (g_w_markClipS a.1 k) fun y1 =>
  Option.bind (g_w_markStateS a.2.1 y1.1) fun y2 =>
  Option.bind (g_w_markRuleS a.2.2.1 y2.1) fun y3 =>
  some (y3.1, ((y1.2.1, (y2.2.1, (y3.2.1, ()))), (k, ())))


def L_w_szFloat32SS_1 (rec' : ((List (List Nat)) × Int × Int × Int × Unit) × (Unit) → Option (Bool × ((Int × Int × Unit) × (Unit)))) (x : ((List (List Nat)) × Int × Int × Int × Unit) × (Unit)) : Option (Bool × ((Int × Int × Unit) × (Unit))) := match x with
  | ((a, left, t4, i, ()), (())) =>
    bif (ilt i (((List.length a) : Nat) : Int)) then
      Option.bind (ix i (List.length a)) fun j1 =>
      bif (ilt (t_w_szFloat32S (List.getD a j1 []) left) 0) then
        some (true, (((t_w_szFloat32S (List.getD a j1 []) left), ((-1), ())), ()))
      else
        rec' ((a, ((t_w_szFloat32S (List.getD a j1 []) left), (t4, ((iadd .i64 i 1), ())))), ())
    else
      some (false, ((left, (t4, ())), ()))

def g_w_szFloat32SS (a : (List (List Nat))) (left : Int) : Option (Int) :=
  bif (ilt (isub .i64 left (((List.length a) : Nat) : Int)) 0) then
    some (-1)
  else
    Option.bind (iter L_w_szFloat32SS_1 fuel ((a, ((isub .i64 left (((List.length a) : Nat) : Int)), (0, (0, ())))), ())) fun y1 =>
    bif y1.1 then
      some y1.2.1.2.1
    else
      some y1.2.1.1


def L_w_toFloat32SS_1 (rec' : ((List (List Nat)) × Int × Unit) × ((List (List Nat)) × Unit) → Option ((Unit) × ((List (List Nat)) × Unit))) (x : ((List (List Nat)) × Int × Unit) × ((List (List Nat)) × Unit)) : Option ((Unit) × ((List (List Nat)) × Unit)) := match x with
  | ((a, i, ()), (r0, ())) =>
    bif (ilt i (((List.length a) : Nat) : Int)) then
      Option.bind (ix i (List.length a)) fun j1 =>
      Option.bind (g_w_toFloat32S (List.getD a j1 [])) fun y2 =>
      Option.bind (ix i (List.length r0)) fun j3 =>
      rec' ((a, ((iadd .i64 i 1), ())), ((List.set r0 j3 y2), ()))
    else
      some ((), (r0, ()))

def g_w_toFloat32SS (a : (List (List Nat))) : Option ((List (List Nat))) :=
  bif (mkOk (((List.length a) : Nat) : Int) (((List.length a) : Nat) : Int)) then
    Option.bind (iter L_w_toFloat32SS_1 fuel ((a, (0, ())), ((List.replicate (List.length a) ([] : List Nat)), ()))) fun y1 =>
    some y1.2.1
  else
    none


def L_s_RunMachine_2 (rec' : ((List (List Nat)) × Int × Int × Unit) × ((dMachine × Unit) × (dRun × Unit) × (dRun × Unit) × (List dPose) × Unit) → Option ((Unit) × ((dRun × Unit) × (dRun × Unit) × (List dPose) × Unit))) (x : ((List (List Nat)) × Int × Int × Unit) × ((dMachine × Unit) × (dRun × Unit) × (dRun × Unit) × (List dPose) × Unit)) : Option ((Unit) × ((dRun × Unit) × (dRun × Unit) × (List dPose) × Unit)) := match x with
  | ((inputs, t39, t40, ()), ((b0, ()), (b1, ()), (b2, ()), r3, ())) =>
    bif (ilt t40 t39) then
      Option.bind (ix t40 (List.length inputs)) fun j1 =>
      Option.bind (g_s_l07Step b0 b1 (List.getD inputs j1 [])) fun y2 =>
      Option.bind (g_s_l07Pose b0 y2) fun y3 =>
      bif (Nat.ble ((List.length r3) + (List.length (([] : List dPose) ++ [y3]))) 4294967296) then
        rec' ((inputs, (t39, ((iadd .i64 t40 1), ()))), ((b0, ()), ((y2, ()), ((b2, ()), ((r3 ++ (([] : List dPose) ++ [y3])), ())))))
      else
        none
    else
      some ((), ((b1, ()), ((b2, ()), (r3, ()))))

def L_s_RunMachine_1 (rec' : ((List (List Nat)) × Bool × Int × Int × Unit) × ((dMachine × Unit) × (dRun × Unit) × (dRun × Unit) × Unit) → Option (Bool × (((List (List Nat)) × Bool × Unit) × ((dMachine × Unit) × (dRun × Unit) × (dRun × Unit) × Unit)))) (x : ((List (List Nat)) × Bool × Int × Int × Unit) × ((dMachine × Unit) × (dRun × Unit) × (dRun × Unit) × Unit)) : Option (Bool × (((List (List Nat)) × Bool × Unit) × ((dMachine × Unit) × (dRun × Unit) × (dRun × Unit) × Unit))) := match x with
  | ((inputs, t8, t25, t26, ()), ((b0, ()), (b1, ()), (b2, ()), ())) =>
    let e1 := ((b0, ()), ((b1, ()), ((b2, ()), ())))
    bif (ilt t26 t25) then
      Option.bind (ix t26 (List.length inputs)) fun j2 =>
      bif (!(ieq (((List.length (List.getD inputs j2 [])) : Nat) : Int) 4)) then
        some (true, ((inputs, (false, ())), ((b0, ()), ((b1, ()), (((0, (0, (0, (0, (0, (0, ())))))), ()), ())))))
      else
        rec' ((inputs, (t8, (t25, ((iadd .i64 t26 1), ())))), e1)
    else
      some (false, ((inputs, (t8, ())), e1))

def g_s_RunMachine (m : dMachine) (r : dRun) (inputs : (List (List Nat))) : Option ((dRun × ((List dPose) × (Bool × Unit)))) :=
  let e1 := (0, (0, (0, (0, (0, (0, ()))))))
  let e2 := (e1, (([] : List dPose), (false, ())))
  Option.bind (g_s_l07Is m) fun y3 =>
  bif (!y3) then
    some e2
  else
    Option.bind (g_s_l07Run m r) fun y4 =>
    bif (!y4) then
      some e2
    else
      bif (ilt 64 (((List.length inputs) : Nat) : Int)) then
        some e2
      else
        Option.bind (iter L_s_RunMachine_1 fuel ((inputs, (false, ((((List.length inputs) : Nat) : Int), (0, ())))), ((m, ()), ((r, ()), ((e1, ()), ()))))) fun y5 =>
        bif y5.1 then
          some (y5.2.2.2.2.1.1, (([] : List dPose), (y5.2.1.2.1, ())))
        else
          Option.bind (iter L_s_RunMachine_2 fuel ((y5.2.1.1, ((((List.length y5.2.1.1) : Nat) : Int), (0, ()))), ((y5.2.2.1.1, ()), ((y5.2.2.2.1.1, ()), ((y5.2.2.2.2.1.1, ()), ((([] : List dPose) ++ []), ())))))) fun y6 =>
          some (y6.2.1.1, (y6.2.2.2.1, (true, ())))


def L_i_RunMachine_1 (rec' : (Bool × (List (List Nat)) × Int × Int × Unit) × ((dMachine × Unit) × (dRun × Unit) × (dRun × Unit) × (List dPose) × Unit) → Option (Bool × ((Bool × Unit) × ((dRun × Unit) × (dRun × Unit) × (List dPose) × Unit)))) (x : (Bool × (List (List Nat)) × Int × Int × Unit) × ((dMachine × Unit) × (dRun × Unit) × (dRun × Unit) × (List dPose) × Unit)) : Option (Bool × ((Bool × Unit) × ((dRun × Unit) × (dRun × Unit) × (List dPose) × Unit))) := match x with
  | ((t8, t22, t23, t24, ()), ((b0, ()), (b1, ()), (b2, ()), r3, ())) =>
    bif (ilt t24 t23) then
      Option.bind (ix t24 (List.length t22)) fun j1 =>
      bif (!(ieq (((List.length (List.getD t22 j1 [])) : Nat) : Int) 4)) then
        some (true, ((false, ()), ((b1, ()), (((0, (0, (0, (0, (0, (0, ())))))), ()), (r3, ())))))
      else
        Option.bind (g_i_Machine_step b0 b1 (List.getD t22 j1 [])) fun y2 =>
        Option.bind (g_i_Machine_pose b0 y2) fun y3 =>
        bif (Nat.ble ((List.length r3) + (List.length (([] : List dPose) ++ [y3]))) 4294967296) then
          rec' ((t8, (t22, (t23, ((iadd .i64 t24 1), ())))), ((b0, ()), ((y2, ()), ((b2, ()), ((r3 ++ (([] : List dPose) ++ [y3])), ())))))
        else
          none
    else
      some (false, ((t8, ()), ((b1, ()), ((b2, ()), (r3, ())))))

def g_i_RunMachine (m : dMachine) (r : dRun) (inputs : (List (List Nat))) : Option ((dRun × ((List dPose) × (Bool × Unit)))) :=
  let e1 := (0, (0, (0, (0, (0, (0, ()))))))
  let e2 := (e1, (([] : List dPose), (false, ())))
  Option.bind (g_i_IsRun m r) fun y3 =>
  bif (!y3) then
    some e2
  else
    bif (ilt 64 (((List.length inputs) : Nat) : Int)) then
      some e2
    else
      Option.bind (iter L_i_RunMachine_1 fuel ((false, (inputs, ((((List.length inputs) : Nat) : Int), (0, ())))), ((m, ()), ((r, ()), ((e1, ()), (([] : List dPose), ())))))) fun y4 =>
      bif y4.1 then
        some (y4.2.2.2.1.1, (([] : List dPose), (y4.2.1.1, ())))
      else
        some (y4.2.2.1.1, (y4.2.2.2.2.1, (true, ())))


def L_w_eqFloat32SS_1 (rec' : ((List (List Nat)) × (List (List Nat)) × Bool × Int × Unit) × (Unit) → Option (Bool × ((Bool × Unit) × (Unit)))) (x : ((List (List Nat)) × (List (List Nat)) × Bool × Int × Unit) × (Unit)) : Option (Bool × ((Bool × Unit) × (Unit))) := match x with
  | ((a, b, t4, i, ()), (())) =>
    bif (ilt i (((List.length a) : Nat) : Int)) then
      Option.bind (ix i (List.length a)) fun j1 =>
      Option.bind (ix i (List.length b)) fun j2 =>
      Option.bind (g_w_eqFloat32S (List.getD a j1 []) (List.getD b j2 [])) fun y3 =>
      bif (!y3) then
        some (true, ((false, ()), ()))
      else
        rec' ((a, (b, (t4, ((iadd .i64 i 1), ())))), ())
    else
      some (false, ((t4, ()), ()))

def g_w_eqFloat32SS (a : (List (List Nat))) (b : (List (List Nat))) : Option (Bool) :=
  bif (!(ieq (((List.length a) : Nat) : Int) (((List.length b) : Nat) : Int))) then
    some false
  else
    Option.bind (iter L_w_eqFloat32SS_1 fuel ((a, (b, (false, (0, ())))), ())) fun y1 =>
    bif y1.1 then
      some y1.2.1.1
    else
      some true


def L_w_markFloat32SS_1 (rec' : (Int × Int × Unit) × ((List (List Nat)) × Unit) → Option ((Int × Unit) × ((List (List Nat)) × Unit))) (x : (Int × Int × Unit) × ((List (List Nat)) × Unit)) : Option ((Int × Unit) × ((List (List Nat)) × Unit)) := match x with
  | ((k, i, ()), (r0, ())) =>
    bif (ilt i (((List.length r0) : Nat) : Int)) then
      Option.bind (ix i (List.length r0)) fun j1 =>
      Option.bind (g_w_markFloat32S (List.getD r0 j1 []) k) fun y2 =>
      rec' ((y2.1, ((iadd .i64 i 1), ())), ((List.set r0 j1 y2.2.1), ()))
    else
      some ((k, ()), (r0, ()))

def g_w_markFloat32SS (a : (List (List Nat))) (k : Int) : Option (Int × ((List (List Nat)) × Int × Unit)) :=
  Option.bind (iter L_w_markFloat32SS_1 fuel ((k, (0, ())), (a, ()))) fun y1 =>
  some (y1.1.1, (y1.2.1, (k, ())))


def L_w_markPoseS_1 (rec' : (Int × Int × Unit) × ((List dPose) × Unit) → Option ((Int × Unit) × ((List dPose) × Unit))) (x : (Int × Int × Unit) × ((List dPose) × Unit)) : Option ((Int × Unit) × ((List dPose) × Unit)) := match x with
  | ((k, i, ()), (r0, ())) =>
    bif (ilt i (((List.length r0) : Nat) : Int)) then
      Option.bind (ix i (List.length r0)) fun j1 =>
      let e2 := (List.set r0 j1 (((fofInt .f32 k), (List.getD r0 j1 zPose).1.2), (List.getD r0 j1 zPose).2))
      Option.bind (ix i (List.length e2)) fun j3 =>
      let e4 := (List.getD e2 j3 zPose)
      let e5 := (List.set e2 j3 ((e4.1.1, ((fofInt .f32 (iadd .i64 k 1)), e4.1.2.2)), e4.2))
      Option.bind (ix i (List.length e5)) fun j6 =>
      let e7 := (List.getD e5 j6 zPose)
      let e8 := (List.set e5 j6 ((e7.1.1, (e7.1.2.1, ((fofInt .f32 (iadd .i64 (iadd .i64 k 1) 1)), ()))), e7.2))
      Option.bind (ix i (List.length e8)) fun j9 =>
      let e10 := (List.getD e8 j9 zPose)
      Option.bind (g_w_markTurnS e10.2.1 (iadd .i64 (iadd .i64 (iadd .i64 k 1) 1) 1)) fun y11 =>
      rec' ((y11.1, ((iadd .i64 i 1), ())), ((List.set e8 j9 (e10.1, (y11.2.1, ()))), ()))
    else
      some ((k, ()), (r0, ()))

def g_w_markPoseS (a : (List dPose)) (k : Int) : Option (Int × ((List dPose) × Int × Unit)) :=
  Option.bind (iter L_w_markPoseS_1 fuel ((k, (0, ())), (a, ()))) fun y1 =>
  some (y1.1.1, (y1.2.1, (k, ())))


def L_w_heldPoseS_1 (rec' : ((List dPose) × Int × Int × Int × Unit) × (Unit) → Option (Bool × ((Int × Int × Unit) × (Unit)))) (x : ((List dPose) × Int × Int × Int × Unit) × (Unit)) : Option (Bool × ((Int × Int × Unit) × (Unit))) := match x with
  | ((a, k, t4, i, ()), (())) =>
    bif (ilt i (((List.length a) : Nat) : Int)) then
      Option.bind (ix i (List.length a)) fun j1 =>
      bif (!(feq .f32 (List.getD a j1 zPose).1.1 (fofInt .f32 k))) then
        some (true, ((k, ((-1), ())), ()))
      else
        Option.bind (ix i (List.length a)) fun j2 =>
        bif (!(feq .f32 (List.getD a j2 zPose).1.2.1 (fofInt .f32 (iadd .i64 k 1)))) then
          some (true, (((iadd .i64 k 1), ((-1), ())), ()))
        else
          Option.bind (ix i (List.length a)) fun j3 =>
          bif (!(feq .f32 (List.getD a j3 zPose).1.2.2.1 (fofInt .f32 (iadd .i64 (iadd .i64 k 1) 1)))) then
            some (true, (((iadd .i64 (iadd .i64 k 1) 1), ((-1), ())), ()))
          else
            Option.bind (ix i (List.length a)) fun j4 =>
            Option.bind (g_w_heldTurnS (List.getD a j4 zPose).2.1 (iadd .i64 (iadd .i64 (iadd .i64 k 1) 1) 1)) fun y5 =>
            bif (ilt y5 0) then
              some (true, ((y5, ((-1), ())), ()))
            else
              rec' ((a, (y5, (t4, ((iadd .i64 i 1), ())))), ())
    else
      some (false, ((k, (t4, ())), ()))

def g_w_heldPoseS (a : (List dPose)) (k : Int) : Option (Int) :=
  Option.bind (iter L_w_heldPoseS_1 fuel ((a, (k, (0, (0, ())))), ())) fun y1 =>
  bif y1.1 then
    some y1.2.1.2.1
  else
    some y1.2.1.1


def g_w_FnExactRunMachine (aM : dMachine) (aR : dRun) (aInputs : (List (List Nat))) : Option (Bool) :=
  Option.bind (g_w_szMachine aM 1048576) fun y1 =>
  bif (ilt y1 0) then
    some true
  else
    Option.bind (g_w_szFloat32SS aInputs y1) fun y2 =>
    bif (ilt y2 0) then
      some true
    else
      Option.bind (g_w_toMachine aM) fun y3 =>
      Option.bind (g_w_toFloat32SS aInputs) fun y4 =>
      Option.bind (g_s_RunMachine y3 (t_w_toRun aR) y4) fun y5 =>
      Option.bind (g_w_toMachine aM) fun y6 =>
      Option.bind (g_w_toFloat32SS aInputs) fun y7 =>
      Option.bind (g_i_RunMachine y6 (t_w_toRun aR) y7) fun y8 =>
      bif (!(t_w_eqRun y8.1 y5.1)) then
        some false
      else
        Option.bind (g_w_eqPoseS y8.2.1 y5.2.1) fun y9 =>
        bif (!y9) then
          some false
        else
          bif (!(y8.2.2.1 == y5.2.2.1)) then
            some false
          else
            Option.bind (g_w_toMachine aM) fun y10 =>
            Option.bind (g_w_eqMachine y6 y10) fun y11 =>
            bif (!y11) then
              some false
            else
              Option.bind (g_w_toFloat32SS aInputs) fun y12 =>
              Option.bind (g_w_eqFloat32SS y7 y12) fun y13 =>
              bif (!y13) then
                some false
              else
                Option.bind (g_w_markMachine y6 1) fun y14 =>
                Option.bind (g_w_markFloat32SS y7 y14.1) fun y15 =>
                bif (ilt y15.1 0) then
                  some false
                else
                  bif (!(t_w_eqRun y8.1 y5.1)) then
                    some false
                  else
                    Option.bind (g_w_eqPoseS y8.2.1 y5.2.1) fun y16 =>
                    bif (!y16) then
                      some false
                    else
                      bif (!(y8.2.2.1 == y5.2.2.1)) then
                        some false
                      else
                        Option.bind (g_w_markPoseS y8.2.1 1) fun y17 =>
                        Option.bind (g_w_heldPoseS y17.2.1 1) fun y18 =>
                        bif (ilt y18 0) then
                          some false
                        else
                          bif (!(ieq y18 y17.1)) then
                            some false
                          else
                            Option.bind (g_w_toMachine aM) fun y19 =>
                            Option.bind (g_w_toFloat32SS aInputs) fun y20 =>
                            Option.bind (g_i_RunMachine y19 (t_w_toRun aR) y20) fun y21 =>
                            bif (!(t_w_eqRun y21.1 y5.1)) then
                              some false
                            else
                              Option.bind (g_w_eqPoseS y21.2.1 y5.2.1) fun y22 =>
                              bif (!y22) then
                                some false
                              else
                                bif (!(y21.2.2.1 == y5.2.2.1)) then
                                  some false
                                else
                                  Option.bind (g_w_heldPoseS y17.2.1 1) fun y23 =>
                                  bif (ilt y23 0) then
                                    some false
                                  else
                                    bif (!(ieq y23 y17.1)) then
                                      some false
                                    else
                                      some true

end
end Go.Fw
