/- What the functions compute, as plain Lean functions. No condition. -/
import Derived.Test.YthmpjkfccbchfaaSPure
set_option linter.unusedVariables false
namespace Go.Fw
noncomputable section
def t_i_CrossOf (a : dVec) (b : dVec) : dVec :=
  ((fsub .f32 (fmul .f32 a.2.1 b.2.2.1) (fmul .f32 a.2.2.1 b.2.1)), ((fsub .f32 (fmul .f32 a.2.2.1 b.1) (fmul .f32 a.1 b.2.2.1)), ((fsub .f32 (fmul .f32 a.1 b.2.1) (fmul .f32 a.2.1 b.1)), ())))

def g_i_InnerOfTurns (a : dTurn) (b : dTurn) : Option (Nat) :=
  some (fadd .f32 (fadd .f32 (fadd .f32 (fmul .f32 a.1 b.1) (fmul .f32 a.2.1 b.2.1)) (fmul .f32 a.2.2.1 b.2.2.1)) (fmul .f32 a.2.2.2.1 b.2.2.2.1))

def t_i_InnerOfTurns (a : dTurn) (b : dTurn) : Nat :=
  (fadd .f32 (fadd .f32 (fadd .f32 (fmul .f32 a.1 b.1) (fmul .f32 a.2.1 b.2.1)) (fmul .f32 a.2.2.1 b.2.2.1)) (fmul .f32 a.2.2.2.1 b.2.2.2.1))

theorem q_i_InnerOfTurns (a : dTurn) (b : dTurn) : g_i_InnerOfTurns a b = some (t_i_InnerOfTurns a b) := rfl


def g_i_LengthOfTurn (t : dTurn) : Option (Nat) :=
  Option.bind (g_i_RootNumber (t_i_InnerOfTurns t t)) fun y1 =>
  some y1


def g_i_isLength (n : Nat) : Option (Bool) :=
  bif (t_i_IsFinite n) then
    some (!(feq .f32 n 0))
  else
    some false

def t_i_isLength (n : Nat) : Bool :=
  bif (t_i_IsFinite n) then
    (!(feq .f32 n 0))
  else
    false

theorem q_i_isLength (n : Nat) : g_i_isLength n = some (t_i_isLength n) := by
  unfold g_i_isLength t_i_isLength; simp only [bif_some_some]


def g_i_NoTurn  : Option (dTurn) :=
  some (1065353216, (0, (0, (0, ()))))

def t_i_NoTurn  : dTurn :=
  (1065353216, (0, (0, (0, ()))))

theorem q_i_NoTurn  : g_i_NoTurn  = some (t_i_NoTurn ) := rfl


def g_i_MendTurn (t : dTurn) : Option (dTurn) :=
  Option.bind (g_i_LengthOfTurn t) fun y1 =>
  bif (!(t_i_isLength y1)) then
    some t_i_NoTurn
  else
    some ((fdiv .f32 t.1 y1), ((fdiv .f32 t.2.1 y1), ((fdiv .f32 t.2.2.1 y1), ((fdiv .f32 t.2.2.2.1 y1), ()))))


def t_i_InverseOf (t : dTurn) : dTurn :=
  (t.1, ((fneg .f32 t.2.1), ((fneg .f32 t.2.2.1), ((fneg .f32 t.2.2.2.1), ()))))

def g_s_l02DrawExact (s : dSrc) : Option (dTurn × (dSrc × Unit)) :=
  Option.bind (g_s_l00Src_pick s 24) fun y1 =>
  bif (ilt y1.1 8) then
    bif (ile 4 y1.1) then
      bif (ieq (irem .i64 y1.1 4) 0) then
        some ((3212836864, (0, (0, (0, ())))), (y1.2.1, ()))
      else
        bif (ieq (irem .i64 y1.1 4) 1) then
          some ((0, (3212836864, (0, (0, ())))), (y1.2.1, ()))
        else
          bif (ieq (irem .i64 y1.1 4) 2) then
            some ((0, (0, (3212836864, (0, ())))), (y1.2.1, ()))
          else
            some ((0, (0, (0, (3212836864, ())))), (y1.2.1, ()))
    else
      bif (ieq (irem .i64 y1.1 4) 0) then
        some ((1065353216, (0, (0, (0, ())))), (y1.2.1, ()))
      else
        bif (ieq (irem .i64 y1.1 4) 1) then
          some ((0, (1065353216, (0, (0, ())))), (y1.2.1, ()))
        else
          bif (ieq (irem .i64 y1.1 4) 2) then
            some ((0, (0, (1065353216, (0, ())))), (y1.2.1, ()))
          else
            some ((0, (0, (0, (1065353216, ())))), (y1.2.1, ()))
  else
    some (((fsub .f32 (fofInt .f32 (iand .i64 (isub .i64 y1.1 8) 1)) 1056964608), ((fsub .f32 (fofInt .f32 (iand .i64 (ishr .i64 (isub .i64 y1.1 8) 1) 1)) 1056964608), ((fsub .f32 (fofInt .f32 (iand .i64 (ishr .i64 (isub .i64 y1.1 8) 2) 1)) 1056964608), ((fsub .f32 (fofInt .f32 (iand .i64 (ishr .i64 (isub .i64 y1.1 8) 3) 1)) 1056964608), ())))), (y1.2.1, ()))


def t_i_MulTurns (a : dTurn) (b : dTurn) : dTurn :=
  ((fsub .f32 (fsub .f32 (fsub .f32 (fmul .f32 a.1 b.1) (fmul .f32 a.2.1 b.2.1)) (fmul .f32 a.2.2.1 b.2.2.1)) (fmul .f32 a.2.2.2.1 b.2.2.2.1)), ((fsub .f32 (fadd .f32 (fadd .f32 (fmul .f32 a.1 b.2.1) (fmul .f32 a.2.1 b.1)) (fmul .f32 a.2.2.1 b.2.2.2.1)) (fmul .f32 a.2.2.2.1 b.2.2.1)), ((fadd .f32 (fadd .f32 (fsub .f32 (fmul .f32 a.1 b.2.2.1) (fmul .f32 a.2.1 b.2.2.2.1)) (fmul .f32 a.2.2.1 b.1)) (fmul .f32 a.2.2.2.1 b.2.1)), ((fadd .f32 (fsub .f32 (fadd .f32 (fmul .f32 a.1 b.2.2.2.1) (fmul .f32 a.2.1 b.2.2.1)) (fmul .f32 a.2.2.1 b.2.1)) (fmul .f32 a.2.2.2.1 b.1)), ()))))

def g_s_l02Inner (a : dTurn) (b : dTurn) : Option (Nat) :=
  some (fadd .f32 (fadd .f32 (fadd .f32 (fmul .f32 a.1 b.1) (fmul .f32 a.2.1 b.2.1)) (fmul .f32 a.2.2.1 b.2.2.1)) (fmul .f32 a.2.2.2.1 b.2.2.2.1))

def t_s_l02Inner (a : dTurn) (b : dTurn) : Nat :=
  (fadd .f32 (fadd .f32 (fadd .f32 (fmul .f32 a.1 b.1) (fmul .f32 a.2.1 b.2.1)) (fmul .f32 a.2.2.1 b.2.2.1)) (fmul .f32 a.2.2.2.1 b.2.2.2.1))

theorem q_s_l02Inner (a : dTurn) (b : dTurn) : g_s_l02Inner a b = some (t_s_l02Inner a b) := rfl


def g_s_l02No  : Option (dTurn) :=
  some (1065353216, (0, (0, (0, ()))))

def t_s_l02No  : dTurn :=
  (1065353216, (0, (0, (0, ()))))

theorem q_s_l02No  : g_s_l02No  = some (t_s_l02No ) := rfl


def g_s_l02Mend (t : dTurn) : Option (dTurn) :=
  Option.bind (g_s_l01Sqrt (t_s_l02Inner t t)) fun y1 =>
  bif (feq .f32 y1 0) then
    some t_s_l02No
  else
    bif (!(t_s_l01Finite y1)) then
      some t_s_l02No
    else
      some ((fdiv .f32 t.1 y1), ((fdiv .f32 t.2.1 y1), ((fdiv .f32 t.2.2.1 y1), ((fdiv .f32 t.2.2.2.1 y1), ()))))


def g_s_l02DrawTurn (s : dSrc) : Option (dTurn × (dSrc × Unit)) :=
  Option.bind (g_s_l00Src_one s 2) fun y1 =>
  bif y1.1 then
    Option.bind (g_s_l02DrawExact y1.2.1) fun y2 =>
    some y2
  else
    Option.bind (g_s_l01DrawSmall y1.2.1) fun y3 =>
    Option.bind (g_s_l01DrawSmall y3.2.1) fun y4 =>
    Option.bind (g_s_l01DrawSmall y4.2.1) fun y5 =>
    Option.bind (g_s_l01DrawSmall y5.2.1) fun y6 =>
    Option.bind (g_s_l02Mend (y3.1, (y4.1, (y5.1, (y6.1, ()))))) fun y7 =>
    some (y7, y6.2)


def g_s_l02DrawAny (s : dSrc) : Option (dTurn × (dSrc × Unit)) :=
  Option.bind (g_s_l00Src_one s 5) fun y1 =>
  bif (!y1.1) then
    Option.bind (g_s_l02DrawTurn y1.2.1) fun y2 =>
    some y2
  else
    Option.bind (g_s_l01DrawFloat y1.2.1) fun y3 =>
    Option.bind (g_s_l01DrawFloat y3.2.1) fun y4 =>
    Option.bind (g_s_l01DrawFloat y4.2.1) fun y5 =>
    Option.bind (g_s_l01DrawFloat y5.2.1) fun y6 =>
    some ((y3.1, (y4.1, (y5.1, (y6.1, ())))), y6.2)


def g_s_R8Any (code : (List Int)) : Option (dTurn) :=
  Option.bind (g_s_l02DrawAny (t_s_l00From code).1) fun y1 =>
  some y1.1


def g_i_SameTurn (a : dTurn) (b : dTurn) : Option (Bool) :=
  Option.bind (g_i_SameNumber a.1 b.1) fun y1 =>
  bif y1 then
    Option.bind (g_i_SameNumber a.2.1 b.2.1) fun y2 =>
    bif y2 then
      Option.bind (g_i_SameNumber a.2.2.1 b.2.2.1) fun y3 =>
      bif y3 then
        Option.bind (g_i_SameNumber a.2.2.2.1 b.2.2.2.1) fun y4 =>
        some y4
      else
        some false
    else
      some false
  else
    some false


def g_w_FnMended (code : (List Int)) (more : (List Int)) : Option (Bool) :=
  bif (t_w_r8Long code more) then
    some true
  else
    Option.bind (g_s_R8Small code) fun y1 =>
    Option.bind (g_s_R8Small more) fun y2 =>
    Option.bind (g_i_MendTurn (y1.1, (y1.2.1, (y1.2.2.1, (y2.1, ()))))) fun y3 =>
    Option.bind (g_i_LengthOfTurn y3) fun y4 =>
    bif (fgt .f64 (t_w_r8Gap (fwide y4) 4607182418800017408) 4547007122018943789) then
      some false
    else
      Option.bind (g_i_MendTurn (0, (0, (0, (0, ()))))) fun y5 =>
      bif (!((feq .f32 y5.1 t_i_NoTurn.1) && ((feq .f32 y5.2.1 t_i_NoTurn.2.1) && ((feq .f32 y5.2.2.1 t_i_NoTurn.2.2.1) && ((feq .f32 y5.2.2.2.1 t_i_NoTurn.2.2.2.1) && true))))) then
        some false
      else
        Option.bind (g_s_R8Any code) fun y6 =>
        Option.bind (g_s_R8Any more) fun y7 =>
        Option.bind (g_i_SameNumber y6.1 y7.1) fun y8 =>
        bif y8 then
          Option.bind (g_i_SameNumber y6.2.1 y7.2.1) fun y9 =>
          bif y9 then
            Option.bind (g_i_SameNumber y6.2.2.1 y7.2.2.1) fun y10 =>
            bif y10 then
              Option.bind (g_i_SameNumber y6.2.2.2.1 y7.2.2.2.1) fun y11 =>
              Option.bind (g_i_SameTurn y6 y7) fun y12 =>
              bif (y12 == y11) then
                Option.bind (g_i_SameTurn y6 y6) fun y13 =>
                some y13
              else
                some false
            else
              Option.bind (g_i_SameTurn y6 y7) fun y14 =>
              bif (y14 == false) then
                Option.bind (g_i_SameTurn y6 y6) fun y15 =>
                some y15
              else
                some false
          else
            Option.bind (g_i_SameTurn y6 y7) fun y16 =>
            bif (y16 == false) then
              Option.bind (g_i_SameTurn y6 y6) fun y17 =>
              some y17
            else
              some false
        else
          Option.bind (g_i_SameTurn y6 y7) fun y18 =>
          bif (y18 == false) then
            Option.bind (g_i_SameTurn y6 y6) fun y19 =>
            some y19
          else
            some false

end
end Go.Fw
