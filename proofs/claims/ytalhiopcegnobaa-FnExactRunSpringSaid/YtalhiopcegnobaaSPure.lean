/- What the functions compute, as plain Lean functions. No condition. -/
import Derived.Test.YtalhiopcegnobaaCPure
set_option linter.unusedVariables false
namespace Go.Fw
def g_w_toSpring (a : dTurn) : Option (dTurn) :=
  some a

def t_w_toSpring (a : dTurn) : dTurn :=
  a

theorem q_w_toSpring (a : dTurn) : g_w_toSpring a = some (t_w_toSpring a) := rfl


def g_s_l01Flush (xx : Nat) : Option (Nat) :=
  Option.bind (g_s_l01Bits xx) fun y1 =>
  bif (ieq (iand .i64 y1 2139095040) 0) then
    some (t_s_l01From (iand .i64 y1 2147483648))
  else
    some xx


def g_s_l08Speed (place : Nat) (speed : Nat) (stiff : Nat) (damp : Nat) (goal : Nat) : Option (Nat) :=
  Option.bind (g_s_l01Flush (fmul .f32 (fadd .f32 speed (fmul .f32 stiff (fsub .f32 goal place))) damp)) fun y1 =>
  some y1


def g_s_l08Step (s : dTurn) (goal : Nat) : Option (dTurn) :=
  Option.bind (g_s_l08Speed s.1 s.2.1 s.2.2.1 s.2.2.2.1 goal) fun y1 =>
  Option.bind (g_s_l01Flush (fadd .f32 s.1 y1)) fun y2 =>
  some (y2, (y1, s.2.2))


def L_s_RunSpring_1 (rec' : ((List Nat) × Int × Unit) × ((dTurn × Unit) × (dTurn × Unit) × (List Nat) × Unit) → Option ((Unit) × ((dTurn × Unit) × (dTurn × Unit) × (List Nat) × Unit))) (x : ((List Nat) × Int × Unit) × ((dTurn × Unit) × (dTurn × Unit) × (List Nat) × Unit)) : Option ((Unit) × ((dTurn × Unit) × (dTurn × Unit) × (List Nat) × Unit)) := match x with
  | ((goals, i, ()), ((b0, ()), (b1, ()), r2, ())) =>
    bif (ilt i (((List.length goals) : Nat) : Int)) then
      Option.bind (ix i (List.length goals)) fun j1 =>
      Option.bind (g_s_l08Step b0 (List.getD goals j1 (0 : Nat))) fun y2 =>
      bif (Nat.ble ((List.length r2) + 1) 4294967296) then
        rec' ((goals, ((iadd .i64 i 1), ())), ((y2, ()), ((b1, ()), ((r2 ++ [y2.1]), ()))))
      else
        none
    else
      some ((), ((b0, ()), ((b1, ()), (r2, ()))))

def g_s_RunSpring (s : dTurn) (goals : (List Nat)) : Option (((List Nat) × (dTurn × (Bool × Unit)))) :=
  let e1 := (0, (0, (0, (0, ()))))
  bif (ilt 256 (((List.length goals) : Nat) : Int)) then
    some (([] : List Nat), (e1, (false, ())))
  else
    Option.bind (iter L_s_RunSpring_1 fuel ((goals, (0, ())), ((s, ()), ((e1, ()), ([], ()))))) fun y2 =>
    some (y2.2.2.2.1, (y2.2.1.1, (true, ())))


def g_i_IsSubnormal (xx : Nat) : Option (Bool) :=
  bif (!(feq .f32 xx 0)) then
    some (flt .f64 (t_mathabs (fwide xx)) 4039728865751334912)
  else
    some false

def t_i_IsSubnormal (xx : Nat) : Bool :=
  bif (!(feq .f32 xx 0)) then
    (flt .f64 (t_mathabs (fwide xx)) 4039728865751334912)
  else
    false

theorem q_i_IsSubnormal (xx : Nat) : g_i_IsSubnormal xx = some (t_i_IsSubnormal xx) := by
  unfold g_i_IsSubnormal t_i_IsSubnormal; simp only [bif_some_some]


def g_math_Copysign (f : Nat) (sign : Nat) : Option (Nat) :=
  Option.bind (g_float64bits f) fun y1 =>
  Option.bind (g_float64bits sign) fun y2 =>
  some (t_float64frombits (ior .u64 (iandNot .u64 y1 9223372036854775808) (iand .u64 y2 9223372036854775808)))


def g_i_FlushNumber (xx : Nat) : Option (Nat) :=
  bif (t_i_IsSubnormal xx) then
    Option.bind (g_math_Copysign 0 (fwide xx)) fun y1 =>
    Option.bind (fconv .f64 .f32 y1) fun y2 =>
    some y2
  else
    some xx


def g_i_drawn (place : Nat) (speed : Nat) (stiff : Nat) (damp : Nat) (goal : Nat) : Option ((Nat × (Nat × Unit))) :=
  Option.bind (g_i_FlushNumber (fmul .f32 (fadd .f32 speed (fmul .f32 stiff (fsub .f32 goal place))) damp)) fun y1 =>
  Option.bind (g_i_FlushNumber (fadd .f32 place y1)) fun y2 =>
  some (y2, (y1, ()))


def g_i_StepSpring (s : dTurn) (goal : Nat) : Option (dTurn) :=
  Option.bind (g_i_drawn s.1 s.2.1 s.2.2.1 s.2.2.2.1 goal) fun y1 =>
  some (y1.1, (y1.2.1, s.2.2))


def L_i_RunSpring_1 (rec' : ((List Nat) × Int × Int × Unit) × ((dTurn × Unit) × (dTurn × Unit) × (List Nat) × Unit) → Option ((Unit) × ((dTurn × Unit) × (dTurn × Unit) × (List Nat) × Unit))) (x : ((List Nat) × Int × Int × Unit) × ((dTurn × Unit) × (dTurn × Unit) × (List Nat) × Unit)) : Option ((Unit) × ((dTurn × Unit) × (dTurn × Unit) × (List Nat) × Unit)) := match x with
  | ((t14, t15, t16, ()), ((b0, ()), (b1, ()), r2, ())) =>
    bif (ilt t16 t15) then
      Option.bind (ix t16 (List.length t14)) fun j1 =>
      Option.bind (g_i_StepSpring b0 (List.getD t14 j1 (0 : Nat))) fun y2 =>
      bif (Nat.ble ((List.length r2) + 1) 4294967296) then
        rec' ((t14, (t15, ((iadd .i64 t16 1), ()))), ((y2, ()), ((b1, ()), ((r2 ++ [y2.1]), ()))))
      else
        none
    else
      some ((), ((b0, ()), ((b1, ()), (r2, ()))))

def g_i_RunSpring (s : dTurn) (goals : (List Nat)) : Option (((List Nat) × (dTurn × (Bool × Unit)))) :=
  let e1 := (0, (0, (0, (0, ()))))
  bif (ilt 256 (((List.length goals) : Nat) : Int)) then
    some (([] : List Nat), (e1, (false, ())))
  else
    Option.bind (iter L_i_RunSpring_1 fuel ((goals, ((((List.length goals) : Nat) : Int), (0, ()))), ((s, ()), ((e1, ()), (([] : List Nat), ()))))) fun y2 =>
    some (y2.2.2.2.1, (y2.2.1.1, (true, ())))


def g_w_eqSpring (a : dTurn) (b : dTurn) : Option (Bool) :=
  bif (!(t_w_sameFloat (fwide a.1) (fwide b.1))) then
    some false
  else
    bif (!(t_w_sameFloat (fwide a.2.1) (fwide b.2.1))) then
      some false
    else
      bif (!(t_w_sameFloat (fwide a.2.2.1) (fwide b.2.2.1))) then
        some false
      else
        bif (!(t_w_sameFloat (fwide a.2.2.2.1) (fwide b.2.2.2.1))) then
          some false
        else
          some true

def t_w_eqSpring (a : dTurn) (b : dTurn) : Bool :=
  bif (!(t_w_sameFloat (fwide a.1) (fwide b.1))) then
    false
  else
    bif (!(t_w_sameFloat (fwide a.2.1) (fwide b.2.1))) then
      false
    else
      bif (!(t_w_sameFloat (fwide a.2.2.1) (fwide b.2.2.1))) then
        false
      else
        bif (!(t_w_sameFloat (fwide a.2.2.2.1) (fwide b.2.2.2.1))) then
          false
        else
          true

theorem q_w_eqSpring (a : dTurn) (b : dTurn) : g_w_eqSpring a b = some (t_w_eqSpring a b) := by
  unfold g_w_eqSpring t_w_eqSpring; simp only [bif_some_some]


def g_w_FnExactRunSpring (aS : dTurn) (aGoals : (List Nat)) : Option (Bool) :=
  bif (ilt 1048576 (((List.length aGoals) : Nat) : Int)) then
    some true
  else
    Option.bind (g_w_toFloat32S aGoals) fun y1 =>
    Option.bind (g_s_RunSpring (t_w_toSpring aS) y1) fun y2 =>
    Option.bind (g_w_toFloat32S aGoals) fun y3 =>
    Option.bind (g_i_RunSpring (t_w_toSpring aS) y3) fun y4 =>
    Option.bind (g_w_eqFloat32S y4.1 y2.1) fun y5 =>
    bif (!y5) then
      some false
    else
      bif (!(t_w_eqSpring y4.2.1 y2.2.1)) then
        some false
      else
        bif (!(y4.2.2.1 == y2.2.2.1)) then
          some false
        else
          Option.bind (g_w_toFloat32S aGoals) fun y6 =>
          Option.bind (g_w_eqFloat32S y3 y6) fun y7 =>
          bif (!y7) then
            some false
          else
            Option.bind (g_w_markFloat32S y3 1) fun y8 =>
            bif (ilt y8.1 0) then
              some false
            else
              Option.bind (g_w_eqFloat32S y4.1 y2.1) fun y9 =>
              bif (!y9) then
                some false
              else
                bif (!(t_w_eqSpring y4.2.1 y2.2.1)) then
                  some false
                else
                  bif (!(y4.2.2.1 == y2.2.2.1)) then
                    some false
                  else
                    Option.bind (g_w_markFloat32S y4.1 1) fun y10 =>
                    Option.bind (g_w_heldFloat32S y10.2.1 1) fun y11 =>
                    bif (ilt y11 0) then
                      some false
                    else
                      bif (!(ieq y11 y10.1)) then
                        some false
                      else
                        Option.bind (g_w_toFloat32S aGoals) fun y12 =>
                        Option.bind (g_i_RunSpring (t_w_toSpring aS) y12) fun y13 =>
                        Option.bind (g_w_eqFloat32S y13.1 y2.1) fun y14 =>
                        bif (!y14) then
                          some false
                        else
                          bif (!(t_w_eqSpring y13.2.1 y2.2.1)) then
                            some false
                          else
                            bif (!(y13.2.2.1 == y2.2.2.1)) then
                              some false
                            else
                              Option.bind (g_w_heldFloat32S y10.2.1 1) fun y15 =>
                              bif (ilt y15 0) then
                                some false
                              else
                                bif (!(ieq y15 y10.1)) then
                                  some false
                                else
                                  some true

end Go.Fw
