/- What the functions compute, as plain Lean functions. No condition. -/
import Derived.Test.YthmpjkfccbchfaaSPure
set_option linter.unusedVariables false
namespace Go.Fw
noncomputable section
def g_i_CrossOf (a : dVec) (b : dVec) : Option (dVec) :=
  some ((fsub .f32 (fmul .f32 a.2.1 b.2.2.1) (fmul .f32 a.2.2.1 b.2.1)), ((fsub .f32 (fmul .f32 a.2.2.1 b.1) (fmul .f32 a.1 b.2.2.1)), ((fsub .f32 (fmul .f32 a.1 b.2.1) (fmul .f32 a.2.1 b.1)), ())))

def t_i_CrossOf (a : dVec) (b : dVec) : dVec :=
  ((fsub .f32 (fmul .f32 a.2.1 b.2.2.1) (fmul .f32 a.2.2.1 b.2.1)), ((fsub .f32 (fmul .f32 a.2.2.1 b.1) (fmul .f32 a.1 b.2.2.1)), ((fsub .f32 (fmul .f32 a.1 b.2.1) (fmul .f32 a.2.1 b.1)), ())))

theorem q_i_CrossOf (a : dVec) (b : dVec) : g_i_CrossOf a b = some (t_i_CrossOf a b) := rfl


def t_i_InnerOfTurns (a : dTurn) (b : dTurn) : Nat :=
  (fadd .f32 (fadd .f32 (fadd .f32 (fmul .f32 a.1 b.1) (fmul .f32 a.2.1 b.2.1)) (fmul .f32 a.2.2.1 b.2.2.1)) (fmul .f32 a.2.2.2.1 b.2.2.2.1))

def g_i_LengthOfTurn (t : dTurn) : Option (Nat) :=
  Option.bind (g_i_RootNumber (t_i_InnerOfTurns t t)) fun y1 =>
  some y1


def t_i_isLength (n : Nat) : Bool :=
  bif (t_i_IsFinite n) then
    (!(feq .f32 n 0))
  else
    false

def t_i_NoTurn  : dTurn :=
  (1065353216, (0, (0, (0, ()))))

def g_i_MendTurn (t : dTurn) : Option (dTurn) :=
  Option.bind (g_i_LengthOfTurn t) fun y1 =>
  bif (!(t_i_isLength y1)) then
    some t_i_NoTurn
  else
    some ((fdiv .f32 t.1 y1), ((fdiv .f32 t.2.1 y1), ((fdiv .f32 t.2.2.1 y1), ((fdiv .f32 t.2.2.2.1 y1), ()))))


def g_i_InverseOf (t : dTurn) : Option (dTurn) :=
  some (t.1, ((fneg .f32 t.2.1), ((fneg .f32 t.2.2.1), ((fneg .f32 t.2.2.2.1), ()))))

def t_i_InverseOf (t : dTurn) : dTurn :=
  (t.1, ((fneg .f32 t.2.1), ((fneg .f32 t.2.2.1), ((fneg .f32 t.2.2.2.1), ()))))

theorem q_i_InverseOf (t : dTurn) : g_i_InverseOf t = some (t_i_InverseOf t) := rfl


def g_i_Turn_vector (t : dTurn) : Option (dVec) :=
  some t.2

def t_i_Turn_vector (t : dTurn) : dVec :=
  t.2

theorem q_i_Turn_vector (t : dTurn) : g_i_Turn_vector t = some (t_i_Turn_vector t) := rfl


def g_i_RotateBy (t : dTurn) (v : dVec) : Option (dVec) :=
  some (t_i_AddVectors (t_i_AddVectors v (t_i_ScaleVector (t_i_ScaleVector (t_i_CrossOf (t_i_Turn_vector t) v) 1073741824) t.1)) (t_i_CrossOf (t_i_Turn_vector t) (t_i_ScaleVector (t_i_CrossOf (t_i_Turn_vector t) v) 1073741824)))

def t_i_RotateBy (t : dTurn) (v : dVec) : dVec :=
  (t_i_AddVectors (t_i_AddVectors v (t_i_ScaleVector (t_i_ScaleVector (t_i_CrossOf (t_i_Turn_vector t) v) 1073741824) t.1)) (t_i_CrossOf (t_i_Turn_vector t) (t_i_ScaleVector (t_i_CrossOf (t_i_Turn_vector t) v) 1073741824)))

theorem q_i_RotateBy (t : dTurn) (v : dVec) : g_i_RotateBy t v = some (t_i_RotateBy t v) := rfl


def g_s_l02DrawExact (s : dSrc) : Option (dTurn × (dSrc × Unit)) :=
  Option.bind (g_s_l00Src_pick s 24) fun y1 =>
  bif (ilt y1.1 8) then
    bif (ile 4 y1.1) then
      bif (ieq (irem .i64 y1.1 4) 0) then
        some ((3212836864, (0, (0, (0, ())))), (y1.2.1, ()))
      else
        bif (ieq (irem .i64 y1.1 4) 1) then
          some ((0, (3212836864, (0, (0, ())))), (y1.2.1, ()))
        else
          bif (ieq (irem .i64 y1.1 4) 2) then
            some ((0, (0, (3212836864, (0, ())))), (y1.2.1, ()))
          else
            some ((0, (0, (0, (3212836864, ())))), (y1.2.1, ()))
    else
      bif (ieq (irem .i64 y1.1 4) 0) then
        some ((1065353216, (0, (0, (0, ())))), (y1.2.1, ()))
      else
        bif (ieq (irem .i64 y1.1 4) 1) then
          some ((0, (1065353216, (0, (0, ())))), (y1.2.1, ()))
        else
          bif (ieq (irem .i64 y1.1 4) 2) then
            some ((0, (0, (1065353216, (0, ())))), (y1.2.1, ()))
          else
            some ((0, (0, (0, (1065353216, ())))), (y1.2.1, ()))
  else
    some (((fsub .f32 (fofInt .f32 (iand .i64 (isub .i64 y1.1 8) 1)) 1056964608), ((fsub .f32 (fofInt .f32 (iand .i64 (ishr .i64 (isub .i64 y1.1 8) 1) 1)) 1056964608), ((fsub .f32 (fofInt .f32 (iand .i64 (ishr .i64 (isub .i64 y1.1 8) 2) 1)) 1056964608), ((fsub .f32 (fofInt .f32 (iand .i64 (ishr .i64 (isub .i64 y1.1 8) 3) 1)) 1056964608), ())))), (y1.2.1, ()))


def t_i_MulTurns (a : dTurn) (b : dTurn) : dTurn :=
  ((fsub .f32 (fsub .f32 (fsub .f32 (fmul .f32 a.1 b.1) (fmul .f32 a.2.1 b.2.1)) (fmul .f32 a.2.2.1 b.2.2.1)) (fmul .f32 a.2.2.2.1 b.2.2.2.1)), ((fsub .f32 (fadd .f32 (fadd .f32 (fmul .f32 a.1 b.2.1) (fmul .f32 a.2.1 b.1)) (fmul .f32 a.2.2.1 b.2.2.2.1)) (fmul .f32 a.2.2.2.1 b.2.2.1)), ((fadd .f32 (fadd .f32 (fsub .f32 (fmul .f32 a.1 b.2.2.1) (fmul .f32 a.2.1 b.2.2.2.1)) (fmul .f32 a.2.2.1 b.1)) (fmul .f32 a.2.2.2.1 b.2.1)), ((fadd .f32 (fsub .f32 (fadd .f32 (fmul .f32 a.1 b.2.2.2.1) (fmul .f32 a.2.1 b.2.2.1)) (fmul .f32 a.2.2.1 b.2.1)) (fmul .f32 a.2.2.2.1 b.1)), ()))))

def g_s_l02Inner (a : dTurn) (b : dTurn) : Option (Nat) :=
  some (fadd .f32 (fadd .f32 (fadd .f32 (fmul .f32 a.1 b.1) (fmul .f32 a.2.1 b.2.1)) (fmul .f32 a.2.2.1 b.2.2.1)) (fmul .f32 a.2.2.2.1 b.2.2.2.1))

def t_s_l02Inner (a : dTurn) (b : dTurn) : Nat :=
  (fadd .f32 (fadd .f32 (fadd .f32 (fmul .f32 a.1 b.1) (fmul .f32 a.2.1 b.2.1)) (fmul .f32 a.2.2.1 b.2.2.1)) (fmul .f32 a.2.2.2.1 b.2.2.2.1))

theorem q_s_l02Inner (a : dTurn) (b : dTurn) : g_s_l02Inner a b = some (t_s_l02Inner a b) := rfl


def g_s_l02No  : Option (dTurn) :=
  some (1065353216, (0, (0, (0, ()))))

def t_s_l02No  : dTurn :=
  (1065353216, (0, (0, (0, ()))))

theorem q_s_l02No  : g_s_l02No  = some (t_s_l02No ) := rfl


def g_s_l02Mend (t : dTurn) : Option (dTurn) :=
  Option.bind (g_s_l01Sqrt (t_s_l02Inner t t)) fun y1 =>
  bif (feq .f32 y1 0) then
    some t_s_l02No
  else
    bif (!(t_s_l01Finite y1)) then
      some t_s_l02No
    else
      some ((fdiv .f32 t.1 y1), ((fdiv .f32 t.2.1 y1), ((fdiv .f32 t.2.2.1 y1), ((fdiv .f32 t.2.2.2.1 y1), ()))))


def g_s_l02DrawTurn (s : dSrc) : Option (dTurn × (dSrc × Unit)) :=
  Option.bind (g_s_l00Src_one s 2) fun y1 =>
  bif y1.1 then
    Option.bind (g_s_l02DrawExact y1.2.1) fun y2 =>
    some y2
  else
    Option.bind (g_s_l01DrawSmall y1.2.1) fun y3 =>
    Option.bind (g_s_l01DrawSmall y3.2.1) fun y4 =>
    Option.bind (g_s_l01DrawSmall y4.2.1) fun y5 =>
    Option.bind (g_s_l01DrawSmall y5.2.1) fun y6 =>
    Option.bind (g_s_l02Mend (y3.1, (y4.1, (y5.1, (y6.1, ()))))) fun y7 =>
    some (y7, y6.2)


def g_s_R8Turn (code : (List Int)) : Option (dTurn) :=
  Option.bind (g_s_l02DrawTurn (t_s_l00From code).1) fun y1 =>
  some y1.1


def L_i_MatrixOf_1 (rec' : (Int × Int × Unit) × ((dTurn × Unit) × (List dVec) × (List Nat) × Unit) → Option ((Unit) × ((List Nat) × Unit))) (x : (Int × Int × Unit) × ((dTurn × Unit) × (List dVec) × (List Nat) × Unit)) : Option ((Unit) × ((List Nat) × Unit)) := match x with
  | ((t11, t12, ()), ((b0, ()), r1, r2, ())) =>
    bif (ilt t12 t11) then
      Option.bind (ix t12 (List.length r1)) fun j1 =>
      bif (Nat.ble ((List.length r2) + 3) 4294967296) then
        rec' ((t11, ((iadd .i64 t12 1), ())), ((b0, ()), (r1, ((r2 ++ [(t_i_RotateBy b0 (List.getD r1 j1 zVec)).1, (t_i_RotateBy b0 (List.getD r1 j1 zVec)).2.1, (t_i_RotateBy b0 (List.getD r1 j1 zVec)).2.2.1]), ()))))
      else
        none
    else
      some ((), (r2, ()))

def g_i_MatrixOf (t : dTurn) : Option ((List Nat)) :=
  Option.bind (iter L_i_MatrixOf_1 fuel ((3, (0, ())), ((t, ()), ([(1065353216, (0, (0, ()))), (0, (1065353216, (0, ()))), (0, (0, (1065353216, ())))], (([] : List Nat), ()))))) fun y1 =>
  some y1.2.1


def g_i_SameVector (a : dVec) (b : dVec) : Option (Bool) :=
  Option.bind (g_i_SameNumber a.1 b.1) fun y1 =>
  bif y1 then
    Option.bind (g_i_SameNumber a.2.1 b.2.1) fun y2 =>
    bif y2 then
      Option.bind (g_i_SameNumber a.2.2.1 b.2.2.1) fun y3 =>
      some y3
    else
      some false
  else
    some false


def g_w_FnRotations (code : (List Int)) (more : (List Int)) : Option (Bool) :=
  bif (t_w_r8Long code more) then
    some true
  else
    Option.bind (g_s_R8Turn code) fun y1 =>
    let e2 := (t_i_RotateBy y1 (1065353216, (0, (0, ()))))
    let e3 := (t_i_RotateBy y1 (0, (1065353216, (0, ()))))
    let e4 := (t_i_RotateBy y1 (0, (0, (1065353216, ()))))
    Option.bind (g_s_R8Small more) fun y5 =>
    Option.bind (g_i_MatrixOf y1) fun y6 =>
    Option.bind (g_i_LongOf (t_i_RotateBy y1 y5)) fun y7 =>
    Option.bind (g_i_LongOf y5) fun y8 =>
    bif (fgt .f64 (t_w_r8Gap (fwide y7) (fwide y8)) 4547007122018943789) then
      some false
    else
      Option.bind (g_i_LongOf (t_i_LessVectors (t_i_RotateBy (t_i_InverseOf y1) (t_i_RotateBy y1 y5)) y5)) fun y9 =>
      bif (fgt .f64 (fwide y9) 4547007122018943789) then
        some false
      else
        bif (!(ieq (((List.length y6) : Nat) : Int) 9)) then
          some false
        else
          Option.bind (ix 0 (List.length y6)) fun j10 =>
          Option.bind (ix 1 (List.length y6)) fun j11 =>
          Option.bind (ix 2 (List.length y6)) fun j12 =>
          Option.bind (g_i_SameVector e2 ((List.getD y6 j10 (0 : Nat)), ((List.getD y6 j11 (0 : Nat)), ((List.getD y6 j12 (0 : Nat)), ())))) fun y13 =>
          bif (!y13) then
            some false
          else
            Option.bind (ix 3 (List.length y6)) fun j14 =>
            Option.bind (ix 4 (List.length y6)) fun j15 =>
            Option.bind (ix 5 (List.length y6)) fun j16 =>
            Option.bind (g_i_SameVector e3 ((List.getD y6 j14 (0 : Nat)), ((List.getD y6 j15 (0 : Nat)), ((List.getD y6 j16 (0 : Nat)), ())))) fun y17 =>
            bif (!y17) then
              some false
            else
              Option.bind (ix 6 (List.length y6)) fun j18 =>
              Option.bind (ix 7 (List.length y6)) fun j19 =>
              Option.bind (ix 8 (List.length y6)) fun j20 =>
              Option.bind (g_i_SameVector e4 ((List.getD y6 j18 (0 : Nat)), ((List.getD y6 j19 (0 : Nat)), ((List.getD y6 j20 (0 : Nat)), ())))) fun y21 =>
              bif (!y21) then
                some false
              else
                Option.bind (g_i_LongOf (t_i_LessVectors (t_i_CrossOf e2 e3) e4)) fun y22 =>
                some (flt .f64 (fwide y22) 4547007122018943789)


end
end Go.Fw
