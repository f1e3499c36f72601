/- What the functions compute, as plain Lean functions. No condition. -/
import Derived.Test.YtobcfldhacdpiaaGreatAPure
set_option linter.unusedVariables false
namespace Go.Fw
noncomputable section
def t_s_l09Point (xx : dSkinPoint) : Bool :=
  bif (ile 1 (((List.length xx.2.1) : Nat) : Int)) then
    bif (ile (((List.length xx.2.1) : Nat) : Int) 4) then
      (ieq (((List.length xx.2.2.1) : Nat) : Int) (((List.length xx.2.1) : Nat) : Int))
    else
      false
  else
    false

def g_i_isLength (n : Nat) : Option (Bool) :=
  bif (t_i_IsFinite n) then
    some (!(feq .f32 n 0))
  else
    some false

def t_i_isLength (n : Nat) : Bool :=
  bif (t_i_IsFinite n) then
    (!(feq .f32 n 0))
  else
    false

theorem q_i_isLength (n : Nat) : g_i_isLength n = some (t_i_isLength n) := by
  unfold g_i_isLength t_i_isLength; simp only [bif_some_some]


def g_s_l02Inner (a : dTurn) (b : dTurn) : Option (Nat) :=
  some (fadd .f32 (fadd .f32 (fadd .f32 (fmul .f32 a.1 b.1) (fmul .f32 a.2.1 b.2.1)) (fmul .f32 a.2.2.1 b.2.2.1)) (fmul .f32 a.2.2.2.1 b.2.2.2.1))

def t_s_l02Inner (a : dTurn) (b : dTurn) : Nat :=
  (fadd .f32 (fadd .f32 (fadd .f32 (fmul .f32 a.1 b.1) (fmul .f32 a.2.1 b.2.1)) (fmul .f32 a.2.2.1 b.2.2.1)) (fmul .f32 a.2.2.2.1 b.2.2.2.1))

theorem q_s_l02Inner (a : dTurn) (b : dTurn) : g_s_l02Inner a b = some (t_s_l02Inner a b) := rfl


def g_s_l02Opposite (t : dTurn) (inner : Nat) : Option (dTurn) :=
  bif (flt .f32 inner 0) then
    some ((fneg .f32 t.1), ((fneg .f32 t.2.1), ((fneg .f32 t.2.2.1), ((fneg .f32 t.2.2.2.1), ()))))
  else
    some t

def t_s_l02Opposite (t : dTurn) (inner : Nat) : dTurn :=
  bif (flt .f32 inner 0) then
    ((fneg .f32 t.1), ((fneg .f32 t.2.1), ((fneg .f32 t.2.2.1), ((fneg .f32 t.2.2.2.1), ()))))
  else
    t

theorem q_s_l02Opposite (t : dTurn) (inner : Nat) : g_s_l02Opposite t inner = some (t_s_l02Opposite t inner) := by
  unfold g_s_l02Opposite t_s_l02Opposite; simp only [bif_some_some]


def g_s_l02No  : Option (dTurn) :=
  some (1065353216, (0, (0, (0, ()))))

def t_s_l02No  : dTurn :=
  (1065353216, (0, (0, (0, ()))))

theorem q_s_l02No  : g_s_l02No  = some (t_s_l02No ) := rfl


def g_s_l02Mend (t : dTurn) : Option (dTurn) :=
  Option.bind (g_s_l01Sqrt (t_s_l02Inner t t)) fun y1 =>
  bif (feq .f32 y1 0) then
    some t_s_l02No
  else
    bif (!(t_s_l01Finite y1)) then
      some t_s_l02No
    else
      some ((fdiv .f32 t.1 y1), ((fdiv .f32 t.2.1 y1), ((fdiv .f32 t.2.2.1 y1), ((fdiv .f32 t.2.2.2.1 y1), ()))))


def L_s_l02Mix_1 (rec' : ((List dTurn) × (List Nat) × Int × Unit) × ((dTurn × Unit) × (dTurn × Unit) × Unit) → Option ((Unit) × ((dTurn × Unit) × (dTurn × Unit) × Unit))) (x : ((List dTurn) × (List Nat) × Int × Unit) × ((dTurn × Unit) × (dTurn × Unit) × Unit)) : Option ((Unit) × ((dTurn × Unit) × (dTurn × Unit) × Unit)) := match x with
  | ((list, weights, i, ()), ((b0, ()), (b1, ()), ())) =>
    bif (ilt i (((List.length list) : Nat) : Int)) then
      Option.bind (ix i (List.length list)) fun j1 =>
      Option.bind (ix 0 (List.length list)) fun j2 =>
      Option.bind (ix i (List.length list)) fun j3 =>
      let e4 := (t_s_l02Opposite (List.getD list j1 zTurn) (t_s_l02Inner (List.getD list j2 zTurn) (List.getD list j3 zTurn)))
      Option.bind (ix i (List.length weights)) fun j5 =>
      Option.bind (ix i (List.length weights)) fun j6 =>
      Option.bind (ix i (List.length weights)) fun j7 =>
      Option.bind (ix i (List.length weights)) fun j8 =>
      rec' ((list, (weights, ((iadd .i64 i 1), ()))), ((b0, ()), ((((fadd .f32 b1.1 (fmul .f32 e4.1 (List.getD weights j5 (0 : Nat)))), ((fadd .f32 b1.2.1 (fmul .f32 e4.2.1 (List.getD weights j6 (0 : Nat)))), ((fadd .f32 b1.2.2.1 (fmul .f32 e4.2.2.1 (List.getD weights j7 (0 : Nat)))), ((fadd .f32 b1.2.2.2.1 (fmul .f32 e4.2.2.2.1 (List.getD weights j8 (0 : Nat)))), ())))), ()), ())))
    else
      some ((), ((b0, ()), ((b1, ()), ())))

def g_s_l02Mix (list : (List dTurn)) (weights : (List Nat)) : Option (dTurn) :=
  let e1 := ((0, (0, (0, (0, ())))), ())
  Option.bind (iter L_s_l02Mix_1 fuel ((list, (weights, (0, ()))), (e1, (e1, ())))) fun y2 =>
  Option.bind (g_s_l02Mend y2.2.2.1.1) fun y3 =>
  some y3


def g_i_InnerOfTurns (a : dTurn) (b : dTurn) : Option (Nat) :=
  some (fadd .f32 (fadd .f32 (fadd .f32 (fmul .f32 a.1 b.1) (fmul .f32 a.2.1 b.2.1)) (fmul .f32 a.2.2.1 b.2.2.1)) (fmul .f32 a.2.2.2.1 b.2.2.2.1))

def t_i_InnerOfTurns (a : dTurn) (b : dTurn) : Nat :=
  (fadd .f32 (fadd .f32 (fadd .f32 (fmul .f32 a.1 b.1) (fmul .f32 a.2.1 b.2.1)) (fmul .f32 a.2.2.1 b.2.2.1)) (fmul .f32 a.2.2.2.1 b.2.2.2.1))

theorem q_i_InnerOfTurns (a : dTurn) (b : dTurn) : g_i_InnerOfTurns a b = some (t_i_InnerOfTurns a b) := rfl


def g_i_Turn_opposite (t : dTurn) : Option (dTurn) :=
  some ((fneg .f32 t.1), ((fneg .f32 t.2.1), ((fneg .f32 t.2.2.1), ((fneg .f32 t.2.2.2.1), ()))))

def t_i_Turn_opposite (t : dTurn) : dTurn :=
  ((fneg .f32 t.1), ((fneg .f32 t.2.1), ((fneg .f32 t.2.2.1), ((fneg .f32 t.2.2.2.1), ()))))

theorem q_i_Turn_opposite (t : dTurn) : g_i_Turn_opposite t = some (t_i_Turn_opposite t) := rfl


def g_i_LengthOfTurn (t : dTurn) : Option (Nat) :=
  Option.bind (g_i_RootNumber (t_i_InnerOfTurns t t)) fun y1 =>
  some y1


def g_i_NoTurn  : Option (dTurn) :=
  some (1065353216, (0, (0, (0, ()))))

def t_i_NoTurn  : dTurn :=
  (1065353216, (0, (0, (0, ()))))

theorem q_i_NoTurn  : g_i_NoTurn  = some (t_i_NoTurn ) := rfl


def g_i_MendTurn (t : dTurn) : Option (dTurn) :=
  Option.bind (g_i_LengthOfTurn t) fun y1 =>
  bif (!(t_i_isLength y1)) then
    some t_i_NoTurn
  else
    some ((fdiv .f32 t.1 y1), ((fdiv .f32 t.2.1 y1), ((fdiv .f32 t.2.2.1 y1), ((fdiv .f32 t.2.2.2.1 y1), ()))))


def L_i_mixTurns_1 (rec' : ((List dTurn) × (List Nat) × (List dTurn) × Int × Int × Unit) × ((dTurn × Unit) × (dTurn × Unit) × Unit) → Option ((Unit) × ((dTurn × Unit) × (dTurn × Unit) × Unit))) (x : ((List dTurn) × (List Nat) × (List dTurn) × Int × Int × Unit) × ((dTurn × Unit) × (dTurn × Unit) × Unit)) : Option ((Unit) × ((dTurn × Unit) × (dTurn × Unit) × Unit)) := match x with
  | ((list, weights, t9, t10, t11, ()), ((b0, ()), (b1, ()), ())) =>
    let e1 := (list, (weights, (t9, (t10, ((iadd .i64 t11 1), ())))))
    bif (ilt t11 t10) then
      Option.bind (ix t11 (List.length t9)) fun j2 =>
      Option.bind (ix 0 (List.length list)) fun j3 =>
      bif (flt .f32 (t_i_InnerOfTurns (List.getD list j3 zTurn) (List.getD t9 j2 zTurn)) 0) then
        Option.bind (ix t11 (List.length weights)) fun j4 =>
        rec' (e1, ((b0, ()), ((((fadd .f32 b1.1 (fmul .f32 (t_i_Turn_opposite (List.getD t9 j2 zTurn)).1 (List.getD weights j4 (0 : Nat)))), ((fadd .f32 b1.2.1 (fmul .f32 (t_i_Turn_opposite (List.getD t9 j2 zTurn)).2.1 (List.getD weights j4 (0 : Nat)))), ((fadd .f32 b1.2.2.1 (fmul .f32 (t_i_Turn_opposite (List.getD t9 j2 zTurn)).2.2.1 (List.getD weights j4 (0 : Nat)))), ((fadd .f32 b1.2.2.2.1 (fmul .f32 (t_i_Turn_opposite (List.getD t9 j2 zTurn)).2.2.2.1 (List.getD weights j4 (0 : Nat)))), ())))), ()), ())))
      else
        Option.bind (ix t11 (List.length weights)) fun j5 =>
        rec' (e1, ((b0, ()), ((((fadd .f32 b1.1 (fmul .f32 (List.getD t9 j2 zTurn).1 (List.getD weights j5 (0 : Nat)))), ((fadd .f32 b1.2.1 (fmul .f32 (List.getD t9 j2 zTurn).2.1 (List.getD weights j5 (0 : Nat)))), ((fadd .f32 b1.2.2.1 (fmul .f32 (List.getD t9 j2 zTurn).2.2.1 (List.getD weights j5 (0 : Nat)))), ((fadd .f32 b1.2.2.2.1 (fmul .f32 (List.getD t9 j2 zTurn).2.2.2.1 (List.getD weights j5 (0 : Nat)))), ())))), ()), ())))
    else
      some ((), ((b0, ()), ((b1, ()), ())))

def g_i_mixTurns (list : (List dTurn)) (weights : (List Nat)) : Option (dTurn) :=
  let e1 := ((0, (0, (0, (0, ())))), ())
  Option.bind (iter L_i_mixTurns_1 fuel ((list, (weights, (list, ((((List.length list) : Nat) : Int), (0, ()))))), (e1, (e1, ())))) fun y2 =>
  Option.bind (g_i_MendTurn y2.2.2.1.1) fun y3 =>
  some y3


end
end Go.Fw
