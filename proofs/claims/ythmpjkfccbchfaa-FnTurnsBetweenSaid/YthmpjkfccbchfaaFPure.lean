/- What the functions compute, as plain Lean functions. No condition. -/
import Derived.Test.YthmpjkfccbchfaaSPure
set_option linter.unusedVariables false
namespace Go.Fw
noncomputable section
def g_i_CrossOf (a : dVec) (b : dVec) : Option (dVec) :=
  some ((fsub .f32 (fmul .f32 a.2.1 b.2.2.1) (fmul .f32 a.2.2.1 b.2.1)), ((fsub .f32 (fmul .f32 a.2.2.1 b.1) (fmul .f32 a.1 b.2.2.1)), ((fsub .f32 (fmul .f32 a.1 b.2.1) (fmul .f32 a.2.1 b.1)), ())))

def t_i_CrossOf (a : dVec) (b : dVec) : dVec :=
  ((fsub .f32 (fmul .f32 a.2.1 b.2.2.1) (fmul .f32 a.2.2.1 b.2.1)), ((fsub .f32 (fmul .f32 a.2.2.1 b.1) (fmul .f32 a.1 b.2.2.1)), ((fsub .f32 (fmul .f32 a.1 b.2.1) (fmul .f32 a.2.1 b.1)), ())))

theorem q_i_CrossOf (a : dVec) (b : dVec) : g_i_CrossOf a b = some (t_i_CrossOf a b) := rfl


def g_i_turnOf (w : Nat) (v : dVec) : Option (dTurn) :=
  some (w, v)

def t_i_turnOf (w : Nat) (v : dVec) : dTurn :=
  (w, v)

theorem q_i_turnOf (w : Nat) (v : dVec) : g_i_turnOf w v = some (t_i_turnOf w v) := rfl


def g_i_InnerOfTurns (a : dTurn) (b : dTurn) : Option (Nat) :=
  some (fadd .f32 (fadd .f32 (fadd .f32 (fmul .f32 a.1 b.1) (fmul .f32 a.2.1 b.2.1)) (fmul .f32 a.2.2.1 b.2.2.1)) (fmul .f32 a.2.2.2.1 b.2.2.2.1))

def t_i_InnerOfTurns (a : dTurn) (b : dTurn) : Nat :=
  (fadd .f32 (fadd .f32 (fadd .f32 (fmul .f32 a.1 b.1) (fmul .f32 a.2.1 b.2.1)) (fmul .f32 a.2.2.1 b.2.2.1)) (fmul .f32 a.2.2.2.1 b.2.2.2.1))

theorem q_i_InnerOfTurns (a : dTurn) (b : dTurn) : g_i_InnerOfTurns a b = some (t_i_InnerOfTurns a b) := rfl


def g_i_LengthOfTurn (t : dTurn) : Option (Nat) :=
  Option.bind (g_i_RootNumber (t_i_InnerOfTurns t t)) fun y1 =>
  some y1


def g_i_isLength (n : Nat) : Option (Bool) :=
  bif (t_i_IsFinite n) then
    some (!(feq .f32 n 0))
  else
    some false

def t_i_isLength (n : Nat) : Bool :=
  bif (t_i_IsFinite n) then
    (!(feq .f32 n 0))
  else
    false

theorem q_i_isLength (n : Nat) : g_i_isLength n = some (t_i_isLength n) := by
  unfold g_i_isLength t_i_isLength; simp only [bif_some_some]


def g_i_NoTurn  : Option (dTurn) :=
  some (1065353216, (0, (0, (0, ()))))

def t_i_NoTurn  : dTurn :=
  (1065353216, (0, (0, (0, ()))))

theorem q_i_NoTurn  : g_i_NoTurn  = some (t_i_NoTurn ) := rfl


def g_i_MendTurn (t : dTurn) : Option (dTurn) :=
  Option.bind (g_i_LengthOfTurn t) fun y1 =>
  bif (!(t_i_isLength y1)) then
    some t_i_NoTurn
  else
    some ((fdiv .f32 t.1 y1), ((fdiv .f32 t.2.1 y1), ((fdiv .f32 t.2.2.1 y1), ((fdiv .f32 t.2.2.2.1 y1), ()))))


def g_i_TurnBetween (a : dVec) (b : dVec) : Option (dTurn) :=
  let e1 := (t_i_CrossOf a (1065353216, (0, (0, ()))))
  Option.bind (g_i_LongOf a) fun y2 =>
  Option.bind (g_i_LongOf b) fun y3 =>
  bif (fgt .f32 (fadd .f32 (fmul .f32 y2 y3) (t_i_InnerOf a b)) (fdiv .f32 (fmul .f32 y2 y3) 1149239296)) then
    Option.bind (g_i_MendTurn (t_i_turnOf (fadd .f32 (fmul .f32 y2 y3) (t_i_InnerOf a b)) (t_i_CrossOf a b))) fun y4 =>
    some y4
  else
    Option.bind (g_i_LongOf e1) fun y5 =>
    Option.bind (g_i_LongOf a) fun y6 =>
    bif (fle .f32 y5 (fdiv .f32 y6 1149239296)) then
      Option.bind (g_i_MendTurn (t_i_turnOf 0 (t_i_CrossOf a (0, (1065353216, (0, ())))))) fun y7 =>
      some y7
    else
      Option.bind (g_i_MendTurn (t_i_turnOf 0 e1)) fun y8 =>
      some y8


def g_i_InverseOf (t : dTurn) : Option (dTurn) :=
  some (t.1, ((fneg .f32 t.2.1), ((fneg .f32 t.2.2.1), ((fneg .f32 t.2.2.2.1), ()))))

def t_i_InverseOf (t : dTurn) : dTurn :=
  (t.1, ((fneg .f32 t.2.1), ((fneg .f32 t.2.2.1), ((fneg .f32 t.2.2.2.1), ()))))

theorem q_i_InverseOf (t : dTurn) : g_i_InverseOf t = some (t_i_InverseOf t) := rfl


def g_i_Turn_vector (t : dTurn) : Option (dVec) :=
  some t.2

def t_i_Turn_vector (t : dTurn) : dVec :=
  t.2

theorem q_i_Turn_vector (t : dTurn) : g_i_Turn_vector t = some (t_i_Turn_vector t) := rfl


def g_i_RotateBy (t : dTurn) (v : dVec) : Option (dVec) :=
  some (t_i_AddVectors (t_i_AddVectors v (t_i_ScaleVector (t_i_ScaleVector (t_i_CrossOf (t_i_Turn_vector t) v) 1073741824) t.1)) (t_i_CrossOf (t_i_Turn_vector t) (t_i_ScaleVector (t_i_CrossOf (t_i_Turn_vector t) v) 1073741824)))

def t_i_RotateBy (t : dTurn) (v : dVec) : dVec :=
  (t_i_AddVectors (t_i_AddVectors v (t_i_ScaleVector (t_i_ScaleVector (t_i_CrossOf (t_i_Turn_vector t) v) 1073741824) t.1)) (t_i_CrossOf (t_i_Turn_vector t) (t_i_ScaleVector (t_i_CrossOf (t_i_Turn_vector t) v) 1073741824)))

theorem q_i_RotateBy (t : dTurn) (v : dVec) : g_i_RotateBy t v = some (t_i_RotateBy t v) := rfl


def g_w_FnTurnsBetween (code : (List Int)) (more : (List Int)) : Option (Bool) :=
  bif (t_w_r8Long code more) then
    some true
  else
    Option.bind (g_s_R8Small code) fun y1 =>
    Option.bind (g_s_R8Small more) fun y2 =>
    Option.bind (g_i_LongOf y1) fun y3 =>
    Option.bind (g_i_LongOf y2) fun y4 =>
    Option.bind (g_i_TurnBetween y1 y2) fun y5 =>
    let e6 := ((feq .f32 (t_i_InverseOf (t_i_InverseOf y5)).1 y5.1) && ((feq .f32 (t_i_InverseOf (t_i_InverseOf y5)).2.1 y5.2.1) && ((feq .f32 (t_i_InverseOf (t_i_InverseOf y5)).2.2.1 y5.2.2.1) && ((feq .f32 (t_i_InverseOf (t_i_InverseOf y5)).2.2.2.1 y5.2.2.2.1) && true))))
    Option.bind (g_i_LengthOfTurn y5) fun y7 =>
    bif (fgt .f64 (t_w_r8Gap (fwide y7) 4607182418800017408) 4547007122018943789) then
      some false
    else
      bif (feq .f32 y3 0) then
        some e6
      else
        bif (feq .f32 y4 0) then
          some e6
        else
          Option.bind (g_i_LongOf (t_i_LessVectors (t_i_ScaleVector (t_i_RotateBy y5 y1) y4) (t_i_ScaleVector y2 y3))) fun y8 =>
          some (flt .f64 (fwide y8) (fmul .f64 (fmul .f64 4591870180066957722 (fwide y3)) (fwide y4)))


def t_i_MulTurns (a : dTurn) (b : dTurn) : dTurn :=
  ((fsub .f32 (fsub .f32 (fsub .f32 (fmul .f32 a.1 b.1) (fmul .f32 a.2.1 b.2.1)) (fmul .f32 a.2.2.1 b.2.2.1)) (fmul .f32 a.2.2.2.1 b.2.2.2.1)), ((fsub .f32 (fadd .f32 (fadd .f32 (fmul .f32 a.1 b.2.1) (fmul .f32 a.2.1 b.1)) (fmul .f32 a.2.2.1 b.2.2.2.1)) (fmul .f32 a.2.2.2.1 b.2.2.1)), ((fadd .f32 (fadd .f32 (fsub .f32 (fmul .f32 a.1 b.2.2.1) (fmul .f32 a.2.1 b.2.2.2.1)) (fmul .f32 a.2.2.1 b.1)) (fmul .f32 a.2.2.2.1 b.2.1)), ((fadd .f32 (fsub .f32 (fadd .f32 (fmul .f32 a.1 b.2.2.2.1) (fmul .f32 a.2.1 b.2.2.1)) (fmul .f32 a.2.2.1 b.2.1)) (fmul .f32 a.2.2.2.1 b.1)), ()))))

end
end Go.Fw
