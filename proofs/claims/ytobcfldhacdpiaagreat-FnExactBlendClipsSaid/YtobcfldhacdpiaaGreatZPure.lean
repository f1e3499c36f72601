/- What the functions compute, as plain Lean functions. No condition. -/
import Derived.Test.YtobcfldhacdpiaaGreatCPure
set_option linter.unusedVariables false
namespace Go.Fw
noncomputable section
def L_s_l05Find_1 (rec' : ((List Int) × Int × Int × Int × Unit) × (Unit) → Option (((List Int) × Int × Int × Int × Unit) × (Unit))) (x : ((List Int) × Int × Int × Int × Unit) × (Unit)) : Option (((List Int) × Int × Int × Int × Unit) × (Unit)) := match x with
  | ((times, atx, kind, i, ()), (())) =>
    let e1 := ((times, (atx, (kind, (i, ())))), ())
    bif (ilt (iadd .i64 i 1) (((List.length times) : Nat) : Int)) then
      Option.bind (ix (iadd .i64 i 1) (List.length times)) fun j2 =>
      bif (ile (List.getD times j2 (0 : Int)) atx) then
        rec' ((times, (atx, (kind, ((iadd .i64 i 1), ())))), ())
      else
        some e1
    else
      some e1

def g_s_l05Find (times : (List Int)) (atx : Int) (kind : Int) : Option ((Int × (Nat × Unit))) :=
  Option.bind (iter L_s_l05Find_1 fuel ((times, (atx, (kind, (0, ())))), ())) fun y1 =>
  let e2 := (y1.1.2.2.2.1, (0, ()))
  let e3 := (ix y1.1.2.2.2.1 (List.length y1.1.1))
  bif (ieq (iadd .i64 y1.1.2.2.2.1 1) (((List.length y1.1.1) : Nat) : Int)) then
    some e2
  else
    Option.bind e3 fun j4 =>
    bif (ile y1.1.2.1 (List.getD y1.1.1 j4 (0 : Int))) then
      some e2
    else
      bif (ieq y1.1.2.2.1 0) then
        some e2
      else
        Option.bind e3 fun j5 =>
        Option.bind (ix (iadd .i64 y1.1.2.2.2.1 1) (List.length y1.1.1)) fun j6 =>
        Option.bind e3 fun j7 =>
        let e8 := (fdiv .f32 (fofInt .f32 (isub .i64 y1.1.2.1 (List.getD y1.1.1 j5 (0 : Int)))) (fofInt .f32 (isub .i64 (List.getD y1.1.1 j6 (0 : Int)) (List.getD y1.1.1 j7 (0 : Int)))))
        bif (ieq y1.1.2.2.1 2) then
          some (y1.1.2.2.2.1, ((fmul .f32 (fmul .f32 e8 e8) (fsub .f32 1077936128 (fmul .f32 1073741824 e8))), ()))
        else
          some (y1.1.2.2.2.1, (e8, ()))


def g_s_l05Inside (times : (List Int)) (i : Int) (atx : Int) (kind : Int) : Option (Bool) :=
  bif (!(ieq kind 0)) then
    bif (ilt (iadd .i64 i 1) (((List.length times) : Nat) : Int)) then
      Option.bind (ix i (List.length times)) fun j1 =>
      some (ilt (List.getD times j1 (0 : Int)) atx)
    else
      some false
  else
    some false


def g_s_l01Between (a : dVec) (b : dVec) (share : Nat) : Option (dVec) :=
  some (t_s_l01Add a (t_s_l01Scale (t_s_l01Less b a) share))

def t_s_l01Between (a : dVec) (b : dVec) (share : Nat) : dVec :=
  (t_s_l01Add a (t_s_l01Scale (t_s_l01Less b a) share))

theorem q_s_l01Between (a : dVec) (b : dVec) (share : Nat) : g_s_l01Between a b share = some (t_s_l01Between a b share) := rfl


def g_s_l05Root (roots : (List dRootKey)) (atx : Int) (kind : Int) : Option (dVec) :=
  Option.bind (g_s_l05RootAt roots) fun y1 =>
  Option.bind (g_s_l05Find y1 atx kind) fun y2 =>
  Option.bind (g_s_l05Inside y1 y2.1 atx kind) fun y3 =>
  bif y3 then
    Option.bind (ix y2.1 (List.length roots)) fun j4 =>
    Option.bind (ix (iadd .i64 y2.1 1) (List.length roots)) fun j5 =>
    some (t_s_l01Between (List.getD roots j4 zRootKey).2.1 (List.getD roots j5 zRootKey).2.1 y2.2.1)
  else
    Option.bind (ix y2.1 (List.length roots)) fun j6 =>
    some (List.getD roots j6 zRootKey).2.1


def g_s_l02Step (a : Nat) (b : Nat) (share : Nat) : Option (Nat) :=
  some (fadd .f32 a (fmul .f32 share (fsub .f32 b a)))

def t_s_l02Step (a : Nat) (b : Nat) (share : Nat) : Nat :=
  (fadd .f32 a (fmul .f32 share (fsub .f32 b a)))

theorem q_s_l02Step (a : Nat) (b : Nat) (share : Nat) : g_s_l02Step a b share = some (t_s_l02Step a b share) := rfl


def g_s_l02Near (a : dTurn) (b : dTurn) (share : Nat) : Option (dTurn) :=
  Option.bind (g_s_l02Mend ((t_s_l02Step a.1 (t_s_l02Opposite b (t_s_l02Inner a b)).1 share), ((t_s_l02Step a.2.1 (t_s_l02Opposite b (t_s_l02Inner a b)).2.1 share), ((t_s_l02Step a.2.2.1 (t_s_l02Opposite b (t_s_l02Inner a b)).2.2.1 share), ((t_s_l02Step a.2.2.2.1 (t_s_l02Opposite b (t_s_l02Inner a b)).2.2.2.1 share), ()))))) fun y1 =>
  some y1


def g_s_l05Turn (track : (List dKey)) (atx : Int) (kind : Int) : Option (dTurn) :=
  Option.bind (g_s_l05At track) fun y1 =>
  Option.bind (g_s_l05Find y1 atx kind) fun y2 =>
  Option.bind (g_s_l05Inside y1 y2.1 atx kind) fun y3 =>
  bif y3 then
    Option.bind (ix y2.1 (List.length track)) fun j4 =>
    Option.bind (ix (iadd .i64 y2.1 1) (List.length track)) fun j5 =>
    Option.bind (g_s_l02Near (List.getD track j4 zKey).2.1 (List.getD track j5 zKey).2.1 y2.2.1) fun y6 =>
    some y6
  else
    Option.bind (ix y2.1 (List.length track)) fun j7 =>
    some (List.getD track j7 zKey).2.1


def L_s_l05Pose_1 (rec' : (dClip × Int × Int × Int × Unit) × ((dVec × Unit) × (List dTurn) × (dVec × Unit) × Unit) → Option ((Unit) × ((dVec × Unit) × (List dTurn) × (dVec × Unit) × Unit))) (x : (dClip × Int × Int × Int × Unit) × ((dVec × Unit) × (List dTurn) × (dVec × Unit) × Unit)) : Option ((Unit) × ((dVec × Unit) × (List dTurn) × (dVec × Unit) × Unit)) := match x with
  | ((c, atx, t23, t24, ()), ((b0, ()), r1, (b2, ()), ())) =>
    bif (ilt t24 t23) then
      Option.bind (ix t24 (List.length c.2.2.1)) fun j1 =>
      Option.bind (g_s_l05Turn (List.getD c.2.2.1 j1 []) atx c.2.1) fun y2 =>
      bif (Nat.ble ((List.length r1) + 1) 4294967296) then
        rec' ((c, (atx, (t23, ((iadd .i64 t24 1), ())))), ((b0, ()), ((r1 ++ [y2]), ((b2, ()), ()))))
      else
        none
    else
      some ((), ((b0, ()), (r1, ((b2, ()), ()))))

def g_s_l05Pose (c : dClip) (atx : Int) : Option (dPose) :=
  Option.bind (g_s_l05Root c.2.2.2.1 atx c.2.1) fun y1 =>
  Option.bind (iter L_s_l05Pose_1 fuel ((c, (atx, ((((List.length c.2.2.1) : Nat) : Int), (0, ())))), (((0, (0, (0, ()))), ()), ([], ((y1, ()), ()))))) fun y2 =>
  some (y2.2.2.2.1.1, (y2.2.2.1, ()))


def L_s_BlendClips_5 (rec' : (Int × Int × Int × Int × Int × Unit) × ((dVec × Unit) × (List Nat) × (List dPose) × (List dTurn) × (dVec × Unit) × (List dTurn) × Unit) → Option ((Int × Int × Unit) × ((dVec × Unit) × (List Nat) × (List dPose) × (List dTurn) × (dVec × Unit) × (List dTurn) × Unit))) (x : (Int × Int × Int × Int × Int × Unit) × ((dVec × Unit) × (List Nat) × (List dPose) × (List dTurn) × (dVec × Unit) × (List dTurn) × Unit)) : Option ((Int × Int × Unit) × ((dVec × Unit) × (List Nat) × (List dPose) × (List dTurn) × (dVec × Unit) × (List dTurn) × Unit)) := match x with
  | ((b, t117, t118, t123, t124, ()), ((b0, ()), r1, r2, r3, (b4, ()), r5, ())) =>
    bif (ilt t124 t123) then
      Option.bind (ix t124 (List.length r2)) fun j1 =>
      Option.bind (ix b (List.length (List.getD r2 j1 zPose).2.1)) fun j2 =>
      bif (Nat.ble ((List.length r5) + 1) 4294967296) then
        rec' ((b, (t117, (t118, (t123, ((iadd .i64 t124 1), ()))))), ((b0, ()), (r1, (r2, (r3, ((b4, ()), ((r5 ++ [(List.getD (List.getD r2 j1 zPose).2.1 j2 zTurn)]), ())))))))
      else
        none
    else
      some ((t117, (t118, ())), ((b0, ()), (r1, (r2, (r3, ((b4, ()), (r5, ())))))))

def L_s_BlendClips_4 (rec' : (Int × Int × Unit) × ((dVec × Unit) × (List Nat) × (List dPose) × (List dTurn) × (dVec × Unit) × Unit) → Option ((Unit) × ((dVec × Unit) × (List dTurn) × (dVec × Unit) × Unit))) (x : (Int × Int × Unit) × ((dVec × Unit) × (List Nat) × (List dPose) × (List dTurn) × (dVec × Unit) × Unit)) : Option ((Unit) × ((dVec × Unit) × (List dTurn) × (dVec × Unit) × Unit)) := match x with
  | ((t117, t118, ()), ((b0, ()), r1, r2, r3, (b4, ()), ())) =>
    bif (ilt t118 t117) then
      Option.bind (iter L_s_BlendClips_5 fuel ((t118, (t117, (t118, ((((List.length r2) : Nat) : Int), (0, ()))))), ((b0, ()), (r1, (r2, (r3, ((b4, ()), ([], ())))))))) fun y1 =>
      Option.bind (g_s_l02Mix y1.2.2.2.2.2.2.1 y1.2.2.1) fun y2 =>
      bif (Nat.ble ((List.length y1.2.2.2.2.1) + 1) 4294967296) then
        rec' ((y1.1.1, ((iadd .i64 y1.1.2.1 1), ())), ((y1.2.1.1, ()), (y1.2.2.1, (y1.2.2.2.1, ((y1.2.2.2.2.1 ++ [y2]), ((y1.2.2.2.2.2.1.1, ()), ()))))))
      else
        none
    else
      some ((), ((b0, ()), (r3, ((b4, ()), ()))))

def L_s_BlendClips_3 (rec' : (Int × Int × Unit) × ((dVec × Unit) × (List Nat) × (List dPose) × (List dTurn) × (dVec × Unit) × Unit) → Option ((Unit) × ((dVec × Unit) × (List Nat) × (List dPose) × (List dTurn) × (dVec × Unit) × Unit))) (x : (Int × Int × Unit) × ((dVec × Unit) × (List Nat) × (List dPose) × (List dTurn) × (dVec × Unit) × Unit)) : Option ((Unit) × ((dVec × Unit) × (List Nat) × (List dPose) × (List dTurn) × (dVec × Unit) × Unit)) := match x with
  | ((t94, t95, ()), ((b0, ()), r1, r2, r3, (b4, ()), ())) =>
    bif (ilt t95 t94) then
      Option.bind (ix t95 (List.length r2)) fun j1 =>
      Option.bind (ix t95 (List.length r1)) fun j2 =>
      rec' ((t94, ((iadd .i64 t95 1), ())), ((b0, ()), (r1, (r2, (r3, (((t_s_l01Add b4 (t_s_l01Scale (List.getD r2 j1 zPose).1 (List.getD r1 j2 (0 : Nat)))), ()), ()))))))
    else
      some ((), ((b0, ()), (r1, (r2, (r3, ((b4, ()), ()))))))

def L_s_BlendClips_2 (rec' : ((List dClip) × Int × Int × Int × Unit) × ((dVec × Unit) × (List Nat) × (List dPose) × Unit) → Option ((Unit) × ((dVec × Unit) × (List Nat) × (List dPose) × Unit))) (x : ((List dClip) × Int × Int × Int × Unit) × ((dVec × Unit) × (List Nat) × (List dPose) × Unit)) : Option ((Unit) × ((dVec × Unit) × (List Nat) × (List dPose) × Unit)) := match x with
  | ((clips, atx, t71, t72, ()), ((b0, ()), r1, r2, ())) =>
    bif (ilt t72 t71) then
      Option.bind (ix t72 (List.length clips)) fun j1 =>
      Option.bind (ix t72 (List.length clips)) fun j2 =>
      Option.bind (g_s_l05Pose (List.getD clips j1 zClip) (iquo .i64 (imul .i64 atx (List.getD clips j2 zClip).1) 1000)) fun y3 =>
      bif (Nat.ble ((List.length r2) + (List.length (([] : List dPose) ++ [y3]))) 4294967296) then
        rec' ((clips, (atx, (t71, ((iadd .i64 t72 1), ())))), ((b0, ()), (r1, ((r2 ++ (([] : List dPose) ++ [y3])), ()))))
      else
        none
    else
      some ((), ((b0, ()), (r1, (r2, ()))))

def L_s_BlendClips_1 (rec' : ((List dClip) × (List Nat) × Nat × Int × Bool × Int × Int × Unit) × ((dVec × Unit) × Unit) → Option (Bool × (((List dClip) × (List Nat) × Nat × Int × Bool × Unit) × ((dVec × Unit) × Unit)))) (x : ((List dClip) × (List Nat) × Nat × Int × Bool × Int × Int × Unit) × ((dVec × Unit) × Unit)) : Option (Bool × (((List dClip) × (List Nat) × Nat × Int × Bool × Unit) × ((dVec × Unit) × Unit))) := match x with
  | ((clips, points, xx, atx, t9, t41, t42, ()), ((b0, ()), ())) =>
    let e1 := (true, ((clips, (points, (xx, (atx, (false, ()))))), (((0, (0, (0, ()))), ()), ())))
    bif (ilt t42 t41) then
      Option.bind (ix t42 (List.length clips)) fun j2 =>
      Option.bind (g_s_l05Is (List.getD clips j2 zClip)) fun y3 =>
      bif (!y3) then
        some e1
      else
        Option.bind (ix t42 (List.length clips)) fun j4 =>
        Option.bind (ix 0 (List.length clips)) fun j5 =>
        bif (!(ieq (((List.length (List.getD clips j4 zClip).2.2.1) : Nat) : Int) (((List.length (List.getD clips j5 zClip).2.2.1) : Nat) : Int))) then
          some e1
        else
          rec' ((clips, (points, (xx, (atx, (t9, (t41, ((iadd .i64 t42 1), ()))))))), ((b0, ()), ()))
    else
      some (false, ((clips, (points, (xx, (atx, (t9, ()))))), ((b0, ()), ())))

def g_s_BlendClips (clips : (List dClip)) (points : (List Nat)) (xx : Nat) (atx : Int) : Option ((dPose × (Bool × Unit))) :=
  let e1 := (((0, (0, (0, ()))), ()), ())
  let e2 := (((0, (0, (0, ()))), (([] : List dTurn), ())), (false, ()))
  Option.bind (g_s_l07Scale points) fun y3 =>
  bif (!y3) then
    some e2
  else
    bif (!(feq .f32 xx xx)) then
      some e2
    else
      bif (!(ieq (((List.length clips) : Nat) : Int) (((List.length points) : Nat) : Int))) then
        some e2
      else
        bif (!(t_s_l00In atx 0 1000)) then
          some e2
        else
          Option.bind (iter L_s_BlendClips_1 fuel ((clips, (points, (xx, (atx, (false, ((((List.length clips) : Nat) : Int), (0, ()))))))), e1)) fun y4 =>
          bif y4.1 then
            some ((y4.2.2.1.1, (([] : List dTurn), ())), (y4.2.1.2.2.2.2.1, ()))
          else
            Option.bind (g_s_l07Weights y4.2.1.2.1 y4.2.1.2.2.1) fun y5 =>
            Option.bind (iter L_s_BlendClips_2 fuel ((y4.2.1.1, (y4.2.1.2.2.2.1, ((((List.length y4.2.1.1) : Nat) : Int), (0, ())))), ((y4.2.2.1.1, ()), (y5, ((([] : List dPose) ++ []), ()))))) fun y6 =>
            Option.bind (iter L_s_BlendClips_3 fuel (((((List.length y6.2.2.2.1) : Nat) : Int), (0, ())), ((y6.2.1.1, ()), (y6.2.2.1, (y6.2.2.2.1, ([], e1)))))) fun y7 =>
            Option.bind (ix 0 (List.length y7.2.2.2.1)) fun j8 =>
            Option.bind (iter L_s_BlendClips_4 fuel (((((List.length (List.getD y7.2.2.2.1 j8 zPose).2.1) : Nat) : Int), (0, ())), ((y7.2.1.1, ()), (y7.2.2.1, (y7.2.2.2.1, (y7.2.2.2.2.1, ((y7.2.2.2.2.2.1.1, ()), ()))))))) fun y9 =>
            some ((y9.2.2.2.1.1, (y9.2.2.1, ())), (true, ()))


def g_i_rootTrack_2 (k : dRootKey) (atx : Int) : Option (dRootKey) :=
  some (atx, k.2)

def t_i_rootTrack_2 (k : dRootKey) (atx : Int) : dRootKey :=
  (atx, k.2)

theorem q_i_rootTrack_2 (k : dRootKey) (atx : Int) : g_i_rootTrack_2 k atx = some (t_i_rootTrack_2 k atx) := rfl


def g_i_share (fromx : Int) (atx : Int) (tox : Int) : Option (Nat) :=
  some (fdiv .f32 (fofInt .f32 (isub .i64 atx fromx)) (fofInt .f32 (isub .i64 tox fromx)))

def t_i_share (fromx : Int) (atx : Int) (tox : Int) : Nat :=
  (fdiv .f32 (fofInt .f32 (isub .i64 atx fromx)) (fofInt .f32 (isub .i64 tox fromx)))

theorem q_i_share (fromx : Int) (atx : Int) (tox : Int) : g_i_share fromx atx tox = some (t_i_share fromx atx tox) := rfl


def g_i_BetweenVectors (a : dVec) (b : dVec) (share : Nat) : Option (dVec) :=
  some (t_i_AddVectors a (t_i_ScaleVector (t_i_LessVectors b a) share))

def t_i_BetweenVectors (a : dVec) (b : dVec) (share : Nat) : dVec :=
  (t_i_AddVectors a (t_i_ScaleVector (t_i_LessVectors b a) share))

theorem q_i_BetweenVectors (a : dVec) (b : dVec) (share : Nat) : g_i_BetweenVectors a b share = some (t_i_BetweenVectors a b share) := rfl


def g_i_rootTrack_3 (p : dRootKey) (q : dRootKey) (share : Nat) : Option (dRootKey) :=
  some (p.1, ((t_i_BetweenVectors p.2.1 q.2.1 share), ()))

def t_i_rootTrack_3 (p : dRootKey) (q : dRootKey) (share : Nat) : dRootKey :=
  (p.1, ((t_i_BetweenVectors p.2.1 q.2.1 share), ()))

theorem q_i_rootTrack_3 (p : dRootKey) (q : dRootKey) (share : Nat) : g_i_rootTrack_3 p q share = some (t_i_rootTrack_3 p q share) := rfl


def L_i_track_i_RootKey_sample_1 (rec' : ((List dRootKey) × Int × Int × Int × Unit) × (((Unit × (Unit × (Unit × Unit))) × Unit) × (dRootKey × Unit) × Unit) → Option (((List dRootKey) × Int × Int × Int × Unit) × (((Unit × (Unit × (Unit × Unit))) × Unit) × (dRootKey × Unit) × Unit))) (x : ((List dRootKey) × Int × Int × Int × Unit) × (((Unit × (Unit × (Unit × Unit))) × Unit) × (dRootKey × Unit) × Unit)) : Option (((List dRootKey) × Int × Int × Int × Unit) × (((Unit × (Unit × (Unit × Unit))) × Unit) × (dRootKey × Unit) × Unit)) := match x with
  | ((keys, kind, atx, i, ()), ((b0, ()), (b1, ()), ())) =>
    let e1 := ((((), ((), ((), ()))), ()), ((b1, ()), ()))
    let e2 := ((keys, (kind, (atx, (i, ())))), e1)
    bif (ilt i (((List.length keys) : Nat) : Int)) then
      Option.bind (ix i (List.length keys)) fun j3 =>
      bif (ile (t_i_rootTrack_1 (List.getD keys j3 zRootKey)) atx) then
        rec' ((keys, (kind, (atx, ((iadd .i64 i 1), ())))), e1)
      else
        some e2
    else
      some e2

def g_i_track_i_RootKey_sample (t : (Unit × (Unit × (Unit × Unit)))) (keys : (List dRootKey)) (kind : Int) (atx : Int) : Option (dRootKey) :=
  Option.bind (iter L_i_track_i_RootKey_sample_1 fuel ((keys, (kind, (atx, (0, ())))), ((((), ((), ((), ()))), ()), (((0, ((0, (0, (0, ()))), ())), ()), ())))) fun y1 =>
  let e2 := (ix (isub .i64 y1.1.2.2.2.1 1) (List.length y1.1.1))
  bif (ieq y1.1.2.2.2.1 0) then
    Option.bind (ix 0 (List.length y1.1.1)) fun j3 =>
    some (t_i_rootTrack_2 (List.getD y1.1.1 j3 zRootKey) y1.1.2.2.1)
  else
    bif (ieq y1.1.2.2.2.1 (((List.length y1.1.1) : Nat) : Int)) then
      Option.bind e2 fun j4 =>
      some (t_i_rootTrack_2 (List.getD y1.1.1 j4 zRootKey) y1.1.2.2.1)
    else
      Option.bind e2 fun j5 =>
      bif (ieq (t_i_rootTrack_1 (List.getD y1.1.1 j5 zRootKey)) y1.1.2.2.1) then
        Option.bind e2 fun j6 =>
        some (t_i_rootTrack_2 (List.getD y1.1.1 j6 zRootKey) y1.1.2.2.1)
      else
        bif (ieq y1.1.2.1 0) then
          Option.bind e2 fun j7 =>
          some (t_i_rootTrack_2 (List.getD y1.1.1 j7 zRootKey) y1.1.2.2.1)
        else
          Option.bind e2 fun j8 =>
          Option.bind (ix y1.1.2.2.2.1 (List.length y1.1.1)) fun j9 =>
          let e10 := (t_i_share (t_i_rootTrack_1 (List.getD y1.1.1 j8 zRootKey)) y1.1.2.2.1 (t_i_rootTrack_1 (List.getD y1.1.1 j9 zRootKey)))
          bif (ieq y1.1.2.1 2) then
            some (t_i_rootTrack_2 (t_i_rootTrack_3 (List.getD y1.1.1 j8 zRootKey) (List.getD y1.1.1 j9 zRootKey) (fmul .f32 (fmul .f32 e10 e10) (fsub .f32 1077936128 (fmul .f32 1073741824 e10)))) y1.1.2.2.1)
          else
            some (t_i_rootTrack_2 (t_i_rootTrack_3 (List.getD y1.1.1 j8 zRootKey) (List.getD y1.1.1 j9 zRootKey) e10) y1.1.2.2.1)


def g_i_Clip_root (c : dClip) (atx : Int) : Option (dVec) :=
  Option.bind (g_i_track_i_RootKey_sample ((), ((), ((), ()))) c.2.2.2.1 c.2.1 atx) fun y1 =>
  some y1.2.1


def g_i_turnTrack_2 (k : dKey) (atx : Int) : Option (dKey) :=
  some (atx, k.2)

def t_i_turnTrack_2 (k : dKey) (atx : Int) : dKey :=
  (atx, k.2)

theorem q_i_turnTrack_2 (k : dKey) (atx : Int) : g_i_turnTrack_2 k atx = some (t_i_turnTrack_2 k atx) := rfl


def g_i_between (a : Nat) (b : Nat) (share : Nat) : Option (Nat) :=
  some (fadd .f32 a (fmul .f32 share (fsub .f32 b a)))

def t_i_between (a : Nat) (b : Nat) (share : Nat) : Nat :=
  (fadd .f32 a (fmul .f32 share (fsub .f32 b a)))

theorem q_i_between (a : Nat) (b : Nat) (share : Nat) : g_i_between a b share = some (t_i_between a b share) := rfl


def g_i_NearTurn (a : dTurn) (b : dTurn) (share : Nat) : Option (dTurn) :=
  bif (flt .f32 (t_i_InnerOfTurns a b) 0) then
    Option.bind (g_i_MendTurn ((t_i_between a.1 (t_i_Turn_opposite b).1 share), ((t_i_between a.2.1 (t_i_Turn_opposite b).2.1 share), ((t_i_between a.2.2.1 (t_i_Turn_opposite b).2.2.1 share), ((t_i_between a.2.2.2.1 (t_i_Turn_opposite b).2.2.2.1 share), ()))))) fun y1 =>
    some y1
  else
    Option.bind (g_i_MendTurn ((t_i_between a.1 b.1 share), ((t_i_between a.2.1 b.2.1 share), ((t_i_between a.2.2.1 b.2.2.1 share), ((t_i_between a.2.2.2.1 b.2.2.2.1 share), ()))))) fun y2 =>
    some y2


def g_i_turnTrack_3 (p : dKey) (q : dKey) (share : Nat) : Option (dKey) :=
  Option.bind (g_i_NearTurn p.2.1 q.2.1 share) fun y1 =>
  some (p.1, (y1, ()))


def L_i_track_i_Key_sample_1 (rec' : ((List dKey) × Int × Int × Int × Unit) × (((Unit × (Unit × (Unit × Unit))) × Unit) × (dKey × Unit) × Unit) → Option (((List dKey) × Int × Int × Int × Unit) × (((Unit × (Unit × (Unit × Unit))) × Unit) × (dKey × Unit) × Unit))) (x : ((List dKey) × Int × Int × Int × Unit) × (((Unit × (Unit × (Unit × Unit))) × Unit) × (dKey × Unit) × Unit)) : Option (((List dKey) × Int × Int × Int × Unit) × (((Unit × (Unit × (Unit × Unit))) × Unit) × (dKey × Unit) × Unit)) := match x with
  | ((keys, kind, atx, i, ()), ((b0, ()), (b1, ()), ())) =>
    let e1 := ((((), ((), ((), ()))), ()), ((b1, ()), ()))
    let e2 := ((keys, (kind, (atx, (i, ())))), e1)
    bif (ilt i (((List.length keys) : Nat) : Int)) then
      Option.bind (ix i (List.length keys)) fun j3 =>
      bif (ile (t_i_turnTrack_1 (List.getD keys j3 zKey)) atx) then
        rec' ((keys, (kind, (atx, ((iadd .i64 i 1), ())))), e1)
      else
        some e2
    else
      some e2

def g_i_track_i_Key_sample (t : (Unit × (Unit × (Unit × Unit)))) (keys : (List dKey)) (kind : Int) (atx : Int) : Option (dKey) :=
  Option.bind (iter L_i_track_i_Key_sample_1 fuel ((keys, (kind, (atx, (0, ())))), ((((), ((), ((), ()))), ()), (((0, ((0, (0, (0, (0, ())))), ())), ()), ())))) fun y1 =>
  let e2 := (ix (isub .i64 y1.1.2.2.2.1 1) (List.length y1.1.1))
  bif (ieq y1.1.2.2.2.1 0) then
    Option.bind (ix 0 (List.length y1.1.1)) fun j3 =>
    some (t_i_turnTrack_2 (List.getD y1.1.1 j3 zKey) y1.1.2.2.1)
  else
    bif (ieq y1.1.2.2.2.1 (((List.length y1.1.1) : Nat) : Int)) then
      Option.bind e2 fun j4 =>
      some (t_i_turnTrack_2 (List.getD y1.1.1 j4 zKey) y1.1.2.2.1)
    else
      Option.bind e2 fun j5 =>
      bif (ieq (t_i_turnTrack_1 (List.getD y1.1.1 j5 zKey)) y1.1.2.2.1) then
        Option.bind e2 fun j6 =>
        some (t_i_turnTrack_2 (List.getD y1.1.1 j6 zKey) y1.1.2.2.1)
      else
        bif (ieq y1.1.2.1 0) then
          Option.bind e2 fun j7 =>
          some (t_i_turnTrack_2 (List.getD y1.1.1 j7 zKey) y1.1.2.2.1)
        else
          Option.bind e2 fun j8 =>
          Option.bind (ix y1.1.2.2.2.1 (List.length y1.1.1)) fun j9 =>
          let e10 := (t_i_share (t_i_turnTrack_1 (List.getD y1.1.1 j8 zKey)) y1.1.2.2.1 (t_i_turnTrack_1 (List.getD y1.1.1 j9 zKey)))
          bif (ieq y1.1.2.1 2) then
            Option.bind (g_i_turnTrack_3 (List.getD y1.1.1 j8 zKey) (List.getD y1.1.1 j9 zKey) (fmul .f32 (fmul .f32 e10 e10) (fsub .f32 1077936128 (fmul .f32 1073741824 e10)))) fun y11 =>
            some (t_i_turnTrack_2 y11 y1.1.2.2.1)
          else
            Option.bind (g_i_turnTrack_3 (List.getD y1.1.1 j8 zKey) (List.getD y1.1.1 j9 zKey) e10) fun y12 =>
            some (t_i_turnTrack_2 y12 y1.1.2.2.1)


def L_i_Clip_sample_1 (rec' : (dClip × Int × (List (List dKey)) × Int × Int × Unit) × ((dVec × Unit) × (List dTurn) × (dVec × Unit) × Unit) → Option ((Unit) × ((dVec × Unit) × (List dTurn) × (dVec × Unit) × Unit))) (x : (dClip × Int × (List (List dKey)) × Int × Int × Unit) × ((dVec × Unit) × (List dTurn) × (dVec × Unit) × Unit)) : Option ((Unit) × ((dVec × Unit) × (List dTurn) × (dVec × Unit) × Unit)) := match x with
  | ((c, atx, t21, t22, t23, ()), ((b0, ()), r1, (b2, ()), ())) =>
    bif (ilt t23 t22) then
      Option.bind (ix t23 (List.length t21)) fun j1 =>
      Option.bind (g_i_track_i_Key_sample ((), ((), ((), ()))) (List.getD t21 j1 []) c.2.1 atx) fun y2 =>
      Option.bind (ix t23 (List.length r1)) fun j3 =>
      rec' ((c, (atx, (t21, (t22, ((iadd .i64 t23 1), ()))))), ((b0, ()), ((List.set r1 j3 y2.2.1), ((b2, ()), ()))))
    else
      some ((), ((b0, ()), (r1, ((b2, ()), ()))))

def g_i_Clip_sample (c : dClip) (atx : Int) : Option (dPose) :=
  Option.bind (g_i_Clip_root c atx) fun y1 =>
  bif (mkOk (((List.length c.2.2.1) : Nat) : Int) (((List.length c.2.2.1) : Nat) : Int)) then
    Option.bind (iter L_i_Clip_sample_1 fuel ((c, (atx, (c.2.2.1, ((((List.length c.2.2.1) : Nat) : Int), (0, ()))))), (((0, (0, (0, ()))), ()), ((List.replicate (List.length c.2.2.1) (0, (0, (0, (0, ()))))), ((y1, ()), ()))))) fun y2 =>
    some (y2.2.2.2.1.1, (y2.2.2.1, ()))
  else
    none


def L_i_BlendClips_4 (rec' : (Int × Int × Unit) × ((dVec × Unit) × (List Nat) × (List dPose) × (dVec × Unit) × (List dTurn) × Unit) → Option ((Unit) × ((dVec × Unit) × (dVec × Unit) × (List dTurn) × Unit))) (x : (Int × Int × Unit) × ((dVec × Unit) × (List Nat) × (List dPose) × (dVec × Unit) × (List dTurn) × Unit)) : Option ((Unit) × ((dVec × Unit) × (dVec × Unit) × (List dTurn) × Unit)) := match x with
  | ((t111, t112, ()), ((b0, ()), r1, r2, (b3, ()), r4, ())) =>
    bif (ilt t112 t111) then
      Option.bind (ix t112 (List.length r2)) fun j1 =>
      Option.bind (ix t112 (List.length r1)) fun j2 =>
      rec' ((t111, ((iadd .i64 t112 1), ())), ((b0, ()), (r1, (r2, (((t_i_AddVectors b3 (t_i_ScaleVector (List.getD r2 j1 zPose).1 (List.getD r1 j2 (0 : Nat)))), ()), (r4, ()))))))
    else
      some ((), ((b0, ()), ((b3, ()), (r4, ()))))

def L_i_BlendClips_3 (rec' : (Int × Int × Int × Int × Int × Unit) × ((dVec × Unit) × (List Nat) × (List dPose) × (dVec × Unit) × (List dTurn) × (List dTurn) × Unit) → Option ((Int × Int × Unit) × ((dVec × Unit) × (List Nat) × (List dPose) × (dVec × Unit) × (List dTurn) × (List dTurn) × Unit))) (x : (Int × Int × Int × Int × Int × Unit) × ((dVec × Unit) × (List Nat) × (List dPose) × (dVec × Unit) × (List dTurn) × (List dTurn) × Unit)) : Option ((Int × Int × Unit) × ((dVec × Unit) × (List Nat) × (List dPose) × (dVec × Unit) × (List dTurn) × (List dTurn) × Unit)) := match x with
  | ((b, t78, t79, t86, t87, ()), ((b0, ()), r1, r2, (b3, ()), r4, r5, ())) =>
    bif (ilt t87 t86) then
      Option.bind (ix t87 (List.length r2)) fun j1 =>
      Option.bind (ix b (List.length (List.getD r2 j1 zPose).2.1)) fun j2 =>
      Option.bind (ix t87 (List.length r5)) fun j3 =>
      rec' ((b, (t78, (t79, (t86, ((iadd .i64 t87 1), ()))))), ((b0, ()), (r1, (r2, ((b3, ()), (r4, ((List.set r5 j3 (List.getD (List.getD r2 j1 zPose).2.1 j2 zTurn)), ())))))))
    else
      some ((t78, (t79, ())), ((b0, ()), (r1, (r2, ((b3, ()), (r4, (r5, ())))))))

def L_i_BlendClips_2 (rec' : (Int × Int × Unit) × ((dVec × Unit) × (List Nat) × (List dPose) × (dVec × Unit) × (List dTurn) × Unit) → Option ((Unit) × ((dVec × Unit) × (List Nat) × (List dPose) × (dVec × Unit) × (List dTurn) × Unit))) (x : (Int × Int × Unit) × ((dVec × Unit) × (List Nat) × (List dPose) × (dVec × Unit) × (List dTurn) × Unit)) : Option ((Unit) × ((dVec × Unit) × (List Nat) × (List dPose) × (dVec × Unit) × (List dTurn) × Unit)) := match x with
  | ((t78, t79, ()), ((b0, ()), r1, r2, (b3, ()), r4, ())) =>
    bif (ilt t79 t78) then
      bif (mkOk (((List.length r2) : Nat) : Int) (((List.length r2) : Nat) : Int)) then
        Option.bind (iter L_i_BlendClips_3 fuel ((t79, (t78, (t79, ((((List.length r2) : Nat) : Int), (0, ()))))), ((b0, ()), (r1, (r2, ((b3, ()), (r4, ((List.replicate (List.length r2) (0, (0, (0, (0, ()))))), ())))))))) fun y1 =>
        Option.bind (g_i_mixTurns y1.2.2.2.2.2.2.1 y1.2.2.1) fun y2 =>
        bif (Nat.ble ((List.length y1.2.2.2.2.2.1) + 1) 4294967296) then
          rec' ((y1.1.1, ((iadd .i64 y1.1.2.1 1), ())), ((y1.2.1.1, ()), (y1.2.2.1, (y1.2.2.2.1, ((y1.2.2.2.2.1.1, ()), ((y1.2.2.2.2.2.1 ++ [y2]), ()))))))
        else
          none
      else
        none
    else
      some ((), ((b0, ()), (r1, (r2, ((b3, ()), (r4, ()))))))

def L_i_BlendClips_1 (rec' : ((List dClip) × Int × Int × Int × Unit) × ((dVec × Unit) × (List Nat) × (List dPose) × Unit) → Option (((List dClip) × Unit) × ((dVec × Unit) × (List Nat) × (List dPose) × Unit))) (x : ((List dClip) × Int × Int × Int × Unit) × ((dVec × Unit) × (List Nat) × (List dPose) × Unit)) : Option (((List dClip) × Unit) × ((dVec × Unit) × (List Nat) × (List dPose) × Unit)) := match x with
  | ((clips, atx, t54, t55, ()), ((b0, ()), r1, r2, ())) =>
    bif (ilt t55 t54) then
      Option.bind (ix t55 (List.length clips)) fun j1 =>
      Option.bind (ix t55 (List.length clips)) fun j2 =>
      Option.bind (g_i_Clip_sample (List.getD clips j1 zClip) (iquo .i64 (imul .i64 atx (List.getD clips j2 zClip).1) 1000)) fun y3 =>
      Option.bind (ix t55 (List.length r2)) fun j4 =>
      rec' ((clips, (atx, (t54, ((iadd .i64 t55 1), ())))), ((b0, ()), (r1, ((List.set r2 j4 y3), ()))))
    else
      some ((clips, ()), ((b0, ()), (r1, (r2, ()))))

def g_i_BlendClips (clips : (List dClip)) (points : (List Nat)) (xx : Nat) (atx : Int) : Option ((dPose × (Bool × Unit))) :=
  let e1 := ((0, (0, (0, ()))), ())
  let e2 := ((0, (0, (0, ()))), (([] : List dTurn), ()))
  let e3 := (e2, (false, ()))
  Option.bind (g_i_WeightsAt points xx) fun y4 =>
  bif (!y4.2.1) then
    some e3
  else
    Option.bind (g_i_areClips clips) fun y5 =>
    bif (!y5) then
      some e3
    else
      bif (!(ieq (((List.length clips) : Nat) : Int) (((List.length points) : Nat) : Int))) then
        some e3
      else
        bif (ilt atx 0) then
          some e3
        else
          bif (ilt 1000 atx) then
            some e3
          else
            bif (mkOk (((List.length clips) : Nat) : Int) (((List.length clips) : Nat) : Int)) then
              Option.bind (iter L_i_BlendClips_1 fuel ((clips, (atx, ((((List.length clips) : Nat) : Int), (0, ())))), (e1, (y4.1, ((List.replicate (List.length clips) e2), ()))))) fun y6 =>
              Option.bind (ix 0 (List.length y6.1.1)) fun j7 =>
              Option.bind (iter L_i_BlendClips_2 fuel (((((List.length (List.getD y6.1.1 j7 zClip).2.2.1) : Nat) : Int), (0, ())), ((y6.2.1.1, ()), (y6.2.2.1, (y6.2.2.2.1, (e1, (([] : List dTurn), ()))))))) fun y8 =>
              Option.bind (iter L_i_BlendClips_4 fuel (((((List.length y8.2.2.2.1) : Nat) : Int), (0, ())), ((y8.2.1.1, ()), (y8.2.2.1, (y8.2.2.2.1, ((y8.2.2.2.2.1.1, ()), (y8.2.2.2.2.2.1, ()))))))) fun y9 =>
              some ((y9.2.2.1.1, (y9.2.2.2.1, ())), (true, ()))
            else
              none


def L_w_markKeyS_1 (rec' : (Int × Int × Unit) × ((List dKey) × Unit) → Option ((Int × Unit) × ((List dKey) × Unit))) (x : (Int × Int × Unit) × ((List dKey) × Unit)) : Option ((Int × Unit) × ((List dKey) × Unit)) := match x with
  | ((k, i, ()), (r0, ())) =>
    let e1 := (iadd .i64 (iadd .i64 (iadd .i64 (iadd .i64 k 1) 1) 1) 1)
    bif (ilt i (((List.length r0) : Nat) : Int)) then
      Option.bind (ix i (List.length r0)) fun j2 =>
      let e3 := (List.set r0 j2 (k, (List.getD r0 j2 zKey).2))
      Option.bind (ix i (List.length e3)) fun j4 =>
      let e5 := (List.getD e3 j4 zKey)
      let e6 := (List.set e3 j4 (e5.1, (((fofInt .f32 (iadd .i64 k 1)), e5.2.1.2), ())))
      Option.bind (ix i (List.length e6)) fun j7 =>
      let e8 := (List.getD e6 j7 zKey)
      let e9 := (List.set e6 j7 (e8.1, ((e8.2.1.1, ((fofInt .f32 (iadd .i64 (iadd .i64 k 1) 1)), e8.2.1.2.2)), ())))
      Option.bind (ix i (List.length e9)) fun j10 =>
      let e11 := (List.getD e9 j10 zKey)
      let e12 := (List.set e9 j10 (e11.1, ((e11.2.1.1, (e11.2.1.2.1, ((fofInt .f32 (iadd .i64 (iadd .i64 (iadd .i64 k 1) 1) 1)), e11.2.1.2.2.2))), ())))
      Option.bind (ix i (List.length e12)) fun j13 =>
      let e14 := (List.getD e12 j13 zKey)
      rec' (((iadd .i64 e1 1), ((iadd .i64 i 1), ())), ((List.set e12 j13 (e14.1, ((e14.2.1.1, (e14.2.1.2.1, (e14.2.1.2.2.1, ((fofInt .f32 e1), ())))), ()))), ()))
    else
      some ((k, ()), (r0, ()))

def g_w_markKeyS (a : (List dKey)) (k : Int) : Option (Int × ((List dKey) × Int × Unit)) :=
  Option.bind (iter L_w_markKeyS_1 fuel ((k, (0, ())), (a, ()))) fun y1 =>
  some (y1.1.1, (y1.2.1, (k, ())))


def L_w_markKeySS_1 (rec' : (Int × Int × Unit) × ((List (List dKey)) × Unit) → Option ((Int × Unit) × ((List (List dKey)) × Unit))) (x : (Int × Int × Unit) × ((List (List dKey)) × Unit)) : Option ((Int × Unit) × ((List (List dKey)) × Unit)) := match x with
  | ((k, i, ()), (r0, ())) =>
    bif (ilt i (((List.length r0) : Nat) : Int)) then
      Option.bind (ix i (List.length r0)) fun j1 =>
      Option.bind (g_w_markKeyS (List.getD r0 j1 []) k) fun y2 =>
      rec' ((y2.1, ((iadd .i64 i 1), ())), ((List.set r0 j1 y2.2.1), ()))
    else
      some ((k, ()), (r0, ()))

def g_w_markKeySS (a : (List (List dKey))) (k : Int) : Option (Int × ((List (List dKey)) × Int × Unit)) :=
  Option.bind (iter L_w_markKeySS_1 fuel ((k, (0, ())), (a, ()))) fun y1 =>
  some (y1.1.1, (y1.2.1, (k, ())))


def L_w_markRootKeyS_1 (rec' : (Int × Int × Unit) × ((List dRootKey) × Unit) → Option ((Int × Unit) × ((List dRootKey) × Unit))) (x : (Int × Int × Unit) × ((List dRootKey) × Unit)) : Option ((Int × Unit) × ((List dRootKey) × Unit)) := match x with
  | ((k, i, ()), (r0, ())) =>
    bif (ilt i (((List.length r0) : Nat) : Int)) then
      Option.bind (ix i (List.length r0)) fun j1 =>
      let e2 := (List.set r0 j1 (k, (List.getD r0 j1 zRootKey).2))
      Option.bind (ix i (List.length e2)) fun j3 =>
      let e4 := (List.getD e2 j3 zRootKey)
      let e5 := (List.set e2 j3 (e4.1, (((fofInt .f32 (iadd .i64 k 1)), e4.2.1.2), ())))
      Option.bind (ix i (List.length e5)) fun j6 =>
      let e7 := (List.getD e5 j6 zRootKey)
      let e8 := (List.set e5 j6 (e7.1, ((e7.2.1.1, ((fofInt .f32 (iadd .i64 (iadd .i64 k 1) 1)), e7.2.1.2.2)), ())))
      Option.bind (ix i (List.length e8)) fun j9 =>
      let e10 := (List.getD e8 j9 zRootKey)
      rec' (((iadd .i64 (iadd .i64 (iadd .i64 (iadd .i64 k 1) 1) 1) 1), ((iadd .i64 i 1), ())), ((List.set e8 j9 (e10.1, ((e10.2.1.1, (e10.2.1.2.1, ((fofInt .f32 (iadd .i64 (iadd .i64 (iadd .i64 k 1) 1) 1)), ()))), ()))), ()))
    else
      some ((k, ()), (r0, ()))

def g_w_markRootKeyS (a : (List dRootKey)) (k : Int) : Option (Int × ((List dRootKey) × Int × Unit)) :=
  Option.bind (iter L_w_markRootKeyS_1 fuel ((k, (0, ())), (a, ()))) fun y1 =>
  some (y1.1.1, (y1.2.1, (k, ())))


def L_w_markClipS_1 (rec' : (Int × Int × Unit) × ((List dClip) × Unit) → Option ((Int × Unit) × ((List dClip) × Unit))) (x : (Int × Int × Unit) × ((List dClip) × Unit)) : Option ((Int × Unit) × ((List dClip) × Unit)) := match x with
  | ((k, i, ()), (r0, ())) =>
    bif (ilt i (((List.length r0) : Nat) : Int)) then
      Option.bind (ix i (List.length r0)) fun j1 =>
      let e2 := (List.set r0 j1 (k, (List.getD r0 j1 zClip).2))
      Option.bind (ix i (List.length e2)) fun j3 =>
      let e4 := (List.getD e2 j3 zClip)
      let e5 := (List.set e2 j3 (e4.1, ((iadd .i64 k 1), e4.2.2)))
      Option.bind (ix i (List.length e5)) fun j6 =>
      let e7 := (List.getD e5 j6 zClip)
      Option.bind (g_w_markKeySS e7.2.2.1 (iadd .i64 (iadd .i64 k 1) 1)) fun y8 =>
      let e9 := (List.set e5 j6 (e7.1, (e7.2.1, (y8.2.1, e7.2.2.2))))
      Option.bind (ix i (List.length e9)) fun j10 =>
      let e11 := (List.getD e9 j10 zClip)
      Option.bind (g_w_markRootKeyS e11.2.2.2.1 y8.1) fun y12 =>
      rec' ((y12.1, ((iadd .i64 i 1), ())), ((List.set e9 j10 (e11.1, (e11.2.1, (e11.2.2.1, (y12.2.1, ()))))), ()))
    else
      some ((k, ()), (r0, ()))

def g_w_markClipS (a : (List dClip)) (k : Int) : Option (Int × ((List dClip) × Int × Unit)) :=
  Option.bind (iter L_w_markClipS_1 fuel ((k, (0, ())), (a, ()))) fun y1 =>
  some (y1.1.1, (y1.2.1, (k, ())))


def g_w_FnExactBlendClips (aClips : (List dClip)) (aPoints : (List Nat)) (aX : Nat) (aAt : Int) : Option (Bool) :=
  bif (ilt 1048576 (((List.length aPoints) : Nat) : Int)) then
    some true
  else
    Option.bind (g_w_szClipS aClips 1048576) fun y1 =>
    bif (ilt y1 0) then
      some true
    else
      Option.bind (g_w_toClipS aClips) fun y2 =>
      Option.bind (g_w_toFloat32S aPoints) fun y3 =>
      Option.bind (g_s_BlendClips y2 y3 aX aAt) fun y4 =>
      Option.bind (g_w_toClipS aClips) fun y5 =>
      Option.bind (g_w_toFloat32S aPoints) fun y6 =>
      Option.bind (g_i_BlendClips y5 y6 aX aAt) fun y7 =>
      Option.bind (g_w_eqPose y7.1 y4.1) fun y8 =>
      bif (!y8) then
        some false
      else
        bif (!(y7.2.1 == y4.2.1)) then
          some false
        else
          Option.bind (g_w_toClipS aClips) fun y9 =>
          Option.bind (g_w_eqClipS y5 y9) fun y10 =>
          bif (!y10) then
            some false
          else
            Option.bind (g_w_toFloat32S aPoints) fun y11 =>
            Option.bind (g_w_eqFloat32S y6 y11) fun y12 =>
            bif (!y12) then
              some false
            else
              Option.bind (g_w_markClipS y5 1) fun y13 =>
              Option.bind (g_w_markFloat32S y6 y13.1) fun y14 =>
              bif (ilt y14.1 0) then
                some false
              else
                Option.bind (g_w_eqPose y7.1 y4.1) fun y15 =>
                bif (!y15) then
                  some false
                else
                  bif (!(y7.2.1 == y4.2.1)) then
                    some false
                  else
                    Option.bind (g_w_markPose y7.1 1) fun y16 =>
                    let e17 := (g_w_heldPose (y7.1.1, y16.2.1.2) 1)
                    Option.bind e17 fun y18 =>
                    bif (ilt y18 0) then
                      some false
                    else
                      bif (!(ieq y18 y16.1)) then
                        some false
                      else
                        Option.bind (g_w_toClipS aClips) fun y19 =>
                        Option.bind (g_w_toFloat32S aPoints) fun y20 =>
                        Option.bind (g_i_BlendClips y19 y20 aX aAt) fun y21 =>
                        Option.bind (g_w_eqPose y21.1 y4.1) fun y22 =>
                        bif (!y22) then
                          some false
                        else
                          bif (!(y21.2.1 == y4.2.1)) then
                            some false
                          else
                            Option.bind e17 fun y23 =>
                            bif (ilt y23 0) then
                              some false
                            else
                              bif (!(ieq y23 y16.1)) then
                                some false
                              else
                                some true


end
end Go.Fw
