/- What the functions compute, as plain Lean functions. No condition. -/
import Derived.Test.YtobcfldhacdpiaaGreatCPure
set_option linter.unusedVariables false
namespace Go.Fw
noncomputable section
def g_s_l00Min (a : Int) (b : Int) : Option (Int) :=
  bif (ilt a b) then
    some a
  else
    some b

def t_s_l00Min (a : Int) (b : Int) : Int :=
  bif (ilt a b) then
    a
  else
    b

theorem q_s_l00Min (a : Int) (b : Int) : g_s_l00Min a b = some (t_s_l00Min a b) := by
  unfold g_s_l00Min t_s_l00Min; simp only [bif_some_some]


def g_s_l07On (m : dMachine) (state : Int) (time : Int) : Option (Int) :=
  Option.bind (g_s_l07Length m state) fun y1 =>
  Option.bind (ix state (List.length m.2.1)) fun j2 =>
  let e3 := (iadd .i64 time (List.getD m.2.1 j2 zState).2.1)
  Option.bind (ix state (List.length m.2.1)) fun j4 =>
  bif (List.getD m.2.1 j4 zState).2.2.1 then
    bif (nz y1) then
      some (irem .i64 e3 y1)
    else
      none
  else
    some (t_s_l00Min e3 y1)


def g_s_l07Step (m : dMachine) (r : dRun) (inputs : (List Nat)) : Option (dRun) :=
  let e1 := ((-1), (0, (0, (0, ()))))
  let e2 := (iadd .i64 r.2.2.2.2.2.1 1)
  Option.bind (g_s_l07First m r inputs) fun y3 =>
  bif (ile 0 y3) then
    Option.bind (ix y3 (List.length m.2.2.1)) fun j4 =>
    let e5 := (t_s_l07Start (List.getD m.2.2.1 j4 zRule).2.1)
    let e6 := (iadd .i64 e5.2.2.2.2.2.1 1)
    bif (ieq (List.getD m.2.2.1 j4 zRule).2.2.2.2.2.1 0) then
      Option.bind (g_s_l07On m e5.1 e5.2.1) fun y7 =>
      bif (ile 0 e5.2.2.1) then
        Option.bind (g_s_l07On m e5.2.2.1 e5.2.2.2.1) fun y8 =>
        bif (ieq e6 e5.2.2.2.2.1) then
          some (e5.1, (y7, e1))
        else
          some (e5.1, (y7, (e5.2.2.1, (y8, (e5.2.2.2.2.1, (e6, ()))))))
      else
        some (e5.1, (y7, e5.2.2))
    else
      Option.bind (g_s_l07On m (List.getD m.2.2.1 j4 zRule).2.1 0) fun y9 =>
      bif (ile 0 r.1) then
        Option.bind (g_s_l07On m r.1 r.2.1) fun y10 =>
        bif (ieq 1 (List.getD m.2.2.1 j4 zRule).2.2.2.2.2.1) then
          some ((List.getD m.2.2.1 j4 zRule).2.1, (y9, e1))
        else
          some ((List.getD m.2.2.1 j4 zRule).2.1, (y9, (r.1, (y10, ((List.getD m.2.2.1 j4 zRule).2.2.2.2.2.1, (1, ()))))))
      else
        some ((List.getD m.2.2.1 j4 zRule).2.1, (y9, (r.1, (r.2.1, ((List.getD m.2.2.1 j4 zRule).2.2.2.2.2.1, (0, ()))))))
  else
    Option.bind (g_s_l07On m r.1 r.2.1) fun y11 =>
    bif (ile 0 r.2.2.1) then
      Option.bind (g_s_l07On m r.2.2.1 r.2.2.2.1) fun y12 =>
      bif (ieq e2 r.2.2.2.2.1) then
        some (r.1, (y11, e1))
      else
        some (r.1, (y11, (r.2.2.1, (y12, (r.2.2.2.2.1, (e2, ()))))))
    else
      some (r.1, (y11, r.2.2))


def g_s_StepRun (m : dMachine) (r : dRun) (inputs : (List Nat)) : Option ((dRun × (Bool × Unit))) :=
  let e1 := ((0, (0, (0, (0, (0, (0, ())))))), (false, ()))
  Option.bind (g_s_l07Is m) fun y2 =>
  bif (!y2) then
    some e1
  else
    Option.bind (g_s_l07Run m r) fun y3 =>
    bif (!y3) then
      some e1
    else
      bif (!(ieq (((List.length inputs) : Nat) : Int) 4)) then
        some e1
      else
        Option.bind (g_s_l07Step m r inputs) fun y4 =>
        some (y4, (true, ()))


def g_i_Machine_later (m : dMachine) (state : Int) (atx : Int) : Option (Int) :=
  Option.bind (ix state (List.length m.2.1)) fun j1 =>
  let e2 := (iadd .i64 atx (List.getD m.2.1 j1 zState).2.1)
  Option.bind (g_i_Machine_length m state) fun y3 =>
  bif (List.getD m.2.1 j1 zState).2.2.1 then
    bif (nz y3) then
      some (irem .i64 e2 y3)
    else
      none
  else
    bif (ilt y3 e2) then
      some y3
    else
      some e2


def g_i_Machine_step (m : dMachine) (r : dRun) (inputs : (List Nat)) : Option (dRun) :=
  let e1 := ((-1), (0, (0, (0, ()))))
  let e2 := (iadd .i64 r.2.2.2.2.2.1 1)
  Option.bind (g_i_Machine_first m r inputs) fun y3 =>
  bif (ile 0 y3) then
    Option.bind (ix y3 (List.length m.2.2.1)) fun j4 =>
    let e5 := (g_i_Machine_later m (List.getD m.2.2.1 j4 zRule).2.1 0)
    bif (ilt 0 (List.getD m.2.2.1 j4 zRule).2.2.2.2.2.1) then
      Option.bind e5 fun y6 =>
      bif (ilt r.1 0) then
        some ((List.getD m.2.2.1 j4 zRule).2.1, (y6, (r.1, (r.2.1, ((List.getD m.2.2.1 j4 zRule).2.2.2.2.2.1, (0, ()))))))
      else
        Option.bind (g_i_Machine_later m r.1 r.2.1) fun y7 =>
        bif (ieq 1 (List.getD m.2.2.1 j4 zRule).2.2.2.2.2.1) then
          some ((List.getD m.2.2.1 j4 zRule).2.1, (y6, e1))
        else
          some ((List.getD m.2.2.1 j4 zRule).2.1, (y6, (r.1, (y7, ((List.getD m.2.2.1 j4 zRule).2.2.2.2.2.1, (1, ()))))))
    else
      Option.bind e5 fun y8 =>
      some ((List.getD m.2.2.1 j4 zRule).2.1, (y8, e1))
  else
    Option.bind (g_i_Machine_later m r.1 r.2.1) fun y9 =>
    bif (ilt r.2.2.1 0) then
      some (r.1, (y9, r.2.2))
    else
      Option.bind (g_i_Machine_later m r.2.2.1 r.2.2.2.1) fun y10 =>
      bif (ieq e2 r.2.2.2.2.1) then
        some (r.1, (y9, e1))
      else
        some (r.1, (y9, (r.2.2.1, (y10, (r.2.2.2.2.1, (e2, ()))))))


def g_i_StepRun (m : dMachine) (r : dRun) (inputs : (List Nat)) : Option ((dRun × (Bool × Unit))) :=
  let e1 := ((0, (0, (0, (0, (0, (0, ())))))), (false, ()))
  Option.bind (g_i_IsRun m r) fun y2 =>
  bif (!y2) then
    some e1
  else
    bif (!(ieq (((List.length inputs) : Nat) : Int) 4)) then
      some e1
    else
      Option.bind (g_i_Machine_step m r inputs) fun y3 =>
      some (y3, (true, ()))


def g_w_FnExactStepRun (aM : dMachine) (aR : dRun) (aInputs : (List Nat)) : Option (Bool) :=
  bif (ilt 1048576 (((List.length aInputs) : Nat) : Int)) then
    some true
  else
    Option.bind (g_w_szMachine aM 1048576) fun y1 =>
    bif (ilt y1 0) then
      some true
    else
      Option.bind (g_w_toMachine aM) fun y2 =>
      Option.bind (g_w_toFloat32S aInputs) fun y3 =>
      Option.bind (g_s_StepRun y2 (t_w_toRun aR) y3) fun y4 =>
      Option.bind (g_w_toMachine aM) fun y5 =>
      Option.bind (g_w_toFloat32S aInputs) fun y6 =>
      Option.bind (g_i_StepRun y5 (t_w_toRun aR) y6) fun y7 =>
      bif (!(t_w_eqRun y7.1 y4.1)) then
        some false
      else
        bif (!(y7.2.1 == y4.2.1)) then
          some false
        else
          Option.bind (g_w_toMachine aM) fun y8 =>
          Option.bind (g_w_eqMachine y5 y8) fun y9 =>
          bif (!y9) then
            some false
          else
            Option.bind (g_w_toFloat32S aInputs) fun y10 =>
            Option.bind (g_w_eqFloat32S y6 y10) fun y11 =>
            bif (!y11) then
              some false
            else
              some true


end
end Go.Fw
