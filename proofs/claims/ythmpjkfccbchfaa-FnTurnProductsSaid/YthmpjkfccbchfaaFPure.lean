/- What the functions compute, as plain Lean functions. No condition. -/
import Derived.Test.YthmpjkfccbchfaaSPure
set_option linter.unusedVariables false
namespace Go.Fw
noncomputable section
def g_i_CrossOf (a : dVec) (b : dVec) : Option (dVec) :=
  some ((fsub .f32 (fmul .f32 a.2.1 b.2.2.1) (fmul .f32 a.2.2.1 b.2.1)), ((fsub .f32 (fmul .f32 a.2.2.1 b.1) (fmul .f32 a.1 b.2.2.1)), ((fsub .f32 (fmul .f32 a.1 b.2.1) (fmul .f32 a.2.1 b.1)), ())))

def t_i_CrossOf (a : dVec) (b : dVec) : dVec :=
  ((fsub .f32 (fmul .f32 a.2.1 b.2.2.1) (fmul .f32 a.2.2.1 b.2.1)), ((fsub .f32 (fmul .f32 a.2.2.1 b.1) (fmul .f32 a.1 b.2.2.1)), ((fsub .f32 (fmul .f32 a.1 b.2.1) (fmul .f32 a.2.1 b.1)), ())))

theorem q_i_CrossOf (a : dVec) (b : dVec) : g_i_CrossOf a b = some (t_i_CrossOf a b) := rfl


def g_i_InnerOfTurns (a : dTurn) (b : dTurn) : Option (Nat) :=
  some (fadd .f32 (fadd .f32 (fadd .f32 (fmul .f32 a.1 b.1) (fmul .f32 a.2.1 b.2.1)) (fmul .f32 a.2.2.1 b.2.2.1)) (fmul .f32 a.2.2.2.1 b.2.2.2.1))

def t_i_InnerOfTurns (a : dTurn) (b : dTurn) : Nat :=
  (fadd .f32 (fadd .f32 (fadd .f32 (fmul .f32 a.1 b.1) (fmul .f32 a.2.1 b.2.1)) (fmul .f32 a.2.2.1 b.2.2.1)) (fmul .f32 a.2.2.2.1 b.2.2.2.1))

theorem q_i_InnerOfTurns (a : dTurn) (b : dTurn) : g_i_InnerOfTurns a b = some (t_i_InnerOfTurns a b) := rfl


def g_i_LengthOfTurn (t : dTurn) : Option (Nat) :=
  Option.bind (g_i_RootNumber (t_i_InnerOfTurns t t)) fun y1 =>
  some y1


def g_i_isLength (n : Nat) : Option (Bool) :=
  bif (t_i_IsFinite n) then
    some (!(feq .f32 n 0))
  else
    some false

def t_i_isLength (n : Nat) : Bool :=
  bif (t_i_IsFinite n) then
    (!(feq .f32 n 0))
  else
    false

theorem q_i_isLength (n : Nat) : g_i_isLength n = some (t_i_isLength n) := by
  unfold g_i_isLength t_i_isLength; simp only [bif_some_some]


def g_i_NoTurn  : Option (dTurn) :=
  some (1065353216, (0, (0, (0, ()))))

def t_i_NoTurn  : dTurn :=
  (1065353216, (0, (0, (0, ()))))

theorem q_i_NoTurn  : g_i_NoTurn  = some (t_i_NoTurn ) := rfl


def g_i_MendTurn (t : dTurn) : Option (dTurn) :=
  Option.bind (g_i_LengthOfTurn t) fun y1 =>
  bif (!(t_i_isLength y1)) then
    some t_i_NoTurn
  else
    some ((fdiv .f32 t.1 y1), ((fdiv .f32 t.2.1 y1), ((fdiv .f32 t.2.2.1 y1), ((fdiv .f32 t.2.2.2.1 y1), ()))))


def g_i_InverseOf (t : dTurn) : Option (dTurn) :=
  some (t.1, ((fneg .f32 t.2.1), ((fneg .f32 t.2.2.1), ((fneg .f32 t.2.2.2.1), ()))))

def t_i_InverseOf (t : dTurn) : dTurn :=
  (t.1, ((fneg .f32 t.2.1), ((fneg .f32 t.2.2.1), ((fneg .f32 t.2.2.2.1), ()))))

theorem q_i_InverseOf (t : dTurn) : g_i_InverseOf t = some (t_i_InverseOf t) := rfl


def g_i_Turn_vector (t : dTurn) : Option (dVec) :=
  some t.2

def t_i_Turn_vector (t : dTurn) : dVec :=
  t.2

theorem q_i_Turn_vector (t : dTurn) : g_i_Turn_vector t = some (t_i_Turn_vector t) := rfl


def g_i_RotateBy (t : dTurn) (v : dVec) : Option (dVec) :=
  some (t_i_AddVectors (t_i_AddVectors v (t_i_ScaleVector (t_i_ScaleVector (t_i_CrossOf (t_i_Turn_vector t) v) 1073741824) t.1)) (t_i_CrossOf (t_i_Turn_vector t) (t_i_ScaleVector (t_i_CrossOf (t_i_Turn_vector t) v) 1073741824)))

def t_i_RotateBy (t : dTurn) (v : dVec) : dVec :=
  (t_i_AddVectors (t_i_AddVectors v (t_i_ScaleVector (t_i_ScaleVector (t_i_CrossOf (t_i_Turn_vector t) v) 1073741824) t.1)) (t_i_CrossOf (t_i_Turn_vector t) (t_i_ScaleVector (t_i_CrossOf (t_i_Turn_vector t) v) 1073741824)))

theorem q_i_RotateBy (t : dTurn) (v : dVec) : g_i_RotateBy t v = some (t_i_RotateBy t v) := rfl


def g_s_l02DrawExact (s : dSrc) : Option (dTurn × (dSrc × Unit)) :=
  Option.bind (g_s_l00Src_pick s 24) fun y1 =>
  bif (ilt y1.1 8) then
    bif (ile 4 y1.1) then
      bif (ieq (irem .i64 y1.1 4) 0) then
        some ((3212836864, (0, (0, (0, ())))), (y1.2.1, ()))
      else
        bif (ieq (irem .i64 y1.1 4) 1) then
          some ((0, (3212836864, (0, (0, ())))), (y1.2.1, ()))
        else
          bif (ieq (irem .i64 y1.1 4) 2) then
            some ((0, (0, (3212836864, (0, ())))), (y1.2.1, ()))
          else
            some ((0, (0, (0, (3212836864, ())))), (y1.2.1, ()))
    else
      bif (ieq (irem .i64 y1.1 4) 0) then
        some ((1065353216, (0, (0, (0, ())))), (y1.2.1, ()))
      else
        bif (ieq (irem .i64 y1.1 4) 1) then
          some ((0, (1065353216, (0, (0, ())))), (y1.2.1, ()))
        else
          bif (ieq (irem .i64 y1.1 4) 2) then
            some ((0, (0, (1065353216, (0, ())))), (y1.2.1, ()))
          else
            some ((0, (0, (0, (1065353216, ())))), (y1.2.1, ()))
  else
    some (((fsub .f32 (fofInt .f32 (iand .i64 (isub .i64 y1.1 8) 1)) 1056964608), ((fsub .f32 (fofInt .f32 (iand .i64 (ishr .i64 (isub .i64 y1.1 8) 1) 1)) 1056964608), ((fsub .f32 (fofInt .f32 (iand .i64 (ishr .i64 (isub .i64 y1.1 8) 2) 1)) 1056964608), ((fsub .f32 (fofInt .f32 (iand .i64 (ishr .i64 (isub .i64 y1.1 8) 3) 1)) 1056964608), ())))), (y1.2.1, ()))


def g_s_R8Exact (code : (List Int)) : Option (dTurn) :=
  Option.bind (g_s_l02DrawExact (t_s_l00From code).1) fun y1 =>
  some y1.1


def g_w_r8Rest (code : (List Int)) : Option ((List Int) × ((List Int) × Unit)) :=
  bif ((decide ((0 : Int) ≤ (iquo .i64 (((List.length code) : Nat) : Int) 2))) && (decide (((iquo .i64 (((List.length code) : Nat) : Int) 2) : Int) ≤ (((List.length code) : Nat) : Int)))) then
    some ((List.drop (Int.toNat (iquo .i64 (((List.length code) : Nat) : Int) 2)) (List.take (List.length code) code)), (code, ()))
  else
    none


def g_i_MulTurns (a : dTurn) (b : dTurn) : Option (dTurn) :=
  some ((fsub .f32 (fsub .f32 (fsub .f32 (fmul .f32 a.1 b.1) (fmul .f32 a.2.1 b.2.1)) (fmul .f32 a.2.2.1 b.2.2.1)) (fmul .f32 a.2.2.2.1 b.2.2.2.1)), ((fsub .f32 (fadd .f32 (fadd .f32 (fmul .f32 a.1 b.2.1) (fmul .f32 a.2.1 b.1)) (fmul .f32 a.2.2.1 b.2.2.2.1)) (fmul .f32 a.2.2.2.1 b.2.2.1)), ((fadd .f32 (fadd .f32 (fsub .f32 (fmul .f32 a.1 b.2.2.1) (fmul .f32 a.2.1 b.2.2.2.1)) (fmul .f32 a.2.2.1 b.1)) (fmul .f32 a.2.2.2.1 b.2.1)), ((fadd .f32 (fsub .f32 (fadd .f32 (fmul .f32 a.1 b.2.2.2.1) (fmul .f32 a.2.1 b.2.2.1)) (fmul .f32 a.2.2.1 b.2.1)) (fmul .f32 a.2.2.2.1 b.1)), ()))))

def t_i_MulTurns (a : dTurn) (b : dTurn) : dTurn :=
  ((fsub .f32 (fsub .f32 (fsub .f32 (fmul .f32 a.1 b.1) (fmul .f32 a.2.1 b.2.1)) (fmul .f32 a.2.2.1 b.2.2.1)) (fmul .f32 a.2.2.2.1 b.2.2.2.1)), ((fsub .f32 (fadd .f32 (fadd .f32 (fmul .f32 a.1 b.2.1) (fmul .f32 a.2.1 b.1)) (fmul .f32 a.2.2.1 b.2.2.2.1)) (fmul .f32 a.2.2.2.1 b.2.2.1)), ((fadd .f32 (fadd .f32 (fsub .f32 (fmul .f32 a.1 b.2.2.1) (fmul .f32 a.2.1 b.2.2.2.1)) (fmul .f32 a.2.2.1 b.1)) (fmul .f32 a.2.2.2.1 b.2.1)), ((fadd .f32 (fsub .f32 (fadd .f32 (fmul .f32 a.1 b.2.2.2.1) (fmul .f32 a.2.1 b.2.2.1)) (fmul .f32 a.2.2.1 b.2.1)) (fmul .f32 a.2.2.2.1 b.1)), ()))))

theorem q_i_MulTurns (a : dTurn) (b : dTurn) : g_i_MulTurns a b = some (t_i_MulTurns a b) := rfl


def g_w_FnTurnProducts (code : (List Int)) (more : (List Int)) : Option (Bool) :=
  bif (t_w_r8Long code more) then
    some true
  else
    Option.bind (g_s_R8Exact code) fun y1 =>
    Option.bind (g_s_R8Exact more) fun y2 =>
    Option.bind (g_w_r8Rest code) fun y3 =>
    Option.bind (g_s_R8Exact y3.1) fun y4 =>
    Option.bind (g_w_r8Rest more) fun y5 =>
    Option.bind (g_s_R8Small y5.1) fun y6 =>
    bif ((feq .f32 (t_i_MulTurns (t_i_MulTurns y1 y2) y4).1 (t_i_MulTurns y1 (t_i_MulTurns y2 y4)).1) && ((feq .f32 (t_i_MulTurns (t_i_MulTurns y1 y2) y4).2.1 (t_i_MulTurns y1 (t_i_MulTurns y2 y4)).2.1) && ((feq .f32 (t_i_MulTurns (t_i_MulTurns y1 y2) y4).2.2.1 (t_i_MulTurns y1 (t_i_MulTurns y2 y4)).2.2.1) && ((feq .f32 (t_i_MulTurns (t_i_MulTurns y1 y2) y4).2.2.2.1 (t_i_MulTurns y1 (t_i_MulTurns y2 y4)).2.2.2.1) && true)))) then
      bif ((feq .f32 (t_i_MulTurns y1 (t_i_InverseOf y1)).1 t_i_NoTurn.1) && ((feq .f32 (t_i_MulTurns y1 (t_i_InverseOf y1)).2.1 t_i_NoTurn.2.1) && ((feq .f32 (t_i_MulTurns y1 (t_i_InverseOf y1)).2.2.1 t_i_NoTurn.2.2.1) && ((feq .f32 (t_i_MulTurns y1 (t_i_InverseOf y1)).2.2.2.1 t_i_NoTurn.2.2.2.1) && true)))) then
        bif ((feq .f32 (t_i_RotateBy (t_i_MulTurns y1 y2) y6).1 (t_i_RotateBy y1 (t_i_RotateBy y2 y6)).1) && ((feq .f32 (t_i_RotateBy (t_i_MulTurns y1 y2) y6).2.1 (t_i_RotateBy y1 (t_i_RotateBy y2 y6)).2.1) && ((feq .f32 (t_i_RotateBy (t_i_MulTurns y1 y2) y6).2.2.1 (t_i_RotateBy y1 (t_i_RotateBy y2 y6)).2.2.1) && true))) then
          bif ((feq .f32 (t_i_RotateBy (t_i_InverseOf y1) (t_i_RotateBy y1 y6)).1 y6.1) && ((feq .f32 (t_i_RotateBy (t_i_InverseOf y1) (t_i_RotateBy y1 y6)).2.1 y6.2.1) && ((feq .f32 (t_i_RotateBy (t_i_InverseOf y1) (t_i_RotateBy y1 y6)).2.2.1 y6.2.2.1) && true))) then
            Option.bind (g_i_LengthOfTurn (t_i_MulTurns (t_i_MulTurns y1 y2) y4)) fun y7 =>
            bif (feq .f32 y7 1065353216) then
              bif (feq .f32 (t_i_InnerOfTurns y1 y1) 1065353216) then
                Option.bind (g_i_MendTurn y1) fun y8 =>
                some ((feq .f32 y8.1 y1.1) && ((feq .f32 y8.2.1 y1.2.1) && ((feq .f32 y8.2.2.1 y1.2.2.1) && ((feq .f32 y8.2.2.2.1 y1.2.2.2.1) && true))))
              else
                some false
            else
              some false
          else
            some false
        else
          some false
      else
        some false
    else
      some false


end
end Go.Fw
