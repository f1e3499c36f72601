/- What the functions compute, as plain Lean functions. No condition. -/
import Derived.Test.YthmpjkfccbchfaaSPure
set_option linter.unusedVariables false
namespace Go.Fw
noncomputable section
def t_i_isRange (low : Nat) (high : Nat) : Bool :=
  bif (t_i_IsFinite low) then
    bif (t_i_IsFinite high) then
      (flt .f32 low high)
    else
      false
  else
    false

def t_i_areBits (bits : Int) : Bool :=
  bif (ile 2 bits) then
    (ile bits 16)
  else
    false

def g_i_codes (bits : Int) : Option (Int) :=
  bif (nonneg bits) then
    some (ishl .i64 1 bits)
  else
    none


def g_i_numberOf (code : Int) (low : Nat) (high : Nat) (bits : Int) : Option (Nat) :=
  Option.bind (g_i_codes bits) fun y1 =>
  Option.bind (fconv .f64 .f32 (fadd .f64 (fwide low) (fmul .f64 (fsub .f64 (fwide high) (fwide low)) (fdiv .f64 (fofInt .f64 code) (fofInt .f64 (isub .i64 y1 1)))))) fun y2 =>
  some y2


def g_i_NumberOf (code : Int) (low : Nat) (high : Nat) (bits : Int) : Option ((Nat × (Bool × Unit))) :=
  bif (!(t_i_isRange low high)) then
    some (0, (false, ()))
  else
    bif (!(t_i_areBits bits)) then
      some (0, (false, ()))
    else
      bif (ilt code 0) then
        some (0, (false, ()))
      else
        Option.bind (g_i_codes bits) fun y1 =>
        bif (ile y1 code) then
          some (0, (false, ()))
        else
          Option.bind (g_i_numberOf code low high bits) fun y2 =>
          some (y2, (true, ()))


def g_i_codeOf (xx : Nat) (low : Nat) (high : Nat) (bits : Int) : Option (Int) :=
  Option.bind (g_i_codes bits) fun y1 =>
  Option.bind (g_roundToEven (fmul .f64 (fdiv .f64 (fsub .f64 (fwide xx) (fwide low)) (fsub .f64 (fwide high) (fwide low))) (fofInt .f64 (isub .i64 y1 1)))) fun y2 =>
  Option.bind (floatToIntVal .f64 (fmin .f64 (fmax .f64 y2 0) (fofInt .f64 (isub .i64 y1 1))) .i64) fun n3 =>
  some n3


def g_i_CodeOf (xx : Nat) (low : Nat) (high : Nat) (bits : Int) : Option ((Int × (Bool × Unit))) :=
  bif (!(feq .f32 xx xx)) then
    some (0, (false, ()))
  else
    bif (!(t_i_isRange low high)) then
      some (0, (false, ()))
    else
      bif (!(t_i_areBits bits)) then
        some (0, (false, ()))
      else
        Option.bind (g_i_codeOf xx low high bits) fun y1 =>
        some (y1, (true, ()))


def t_i_CrossOf (a : dVec) (b : dVec) : dVec :=
  ((fsub .f32 (fmul .f32 a.2.1 b.2.2.1) (fmul .f32 a.2.2.1 b.2.1)), ((fsub .f32 (fmul .f32 a.2.2.1 b.1) (fmul .f32 a.1 b.2.2.1)), ((fsub .f32 (fmul .f32 a.1 b.2.1) (fmul .f32 a.2.1 b.1)), ())))

def t_i_turnOf (w : Nat) (v : dVec) : dTurn :=
  (w, v)

def t_i_InnerOfTurns (a : dTurn) (b : dTurn) : Nat :=
  (fadd .f32 (fadd .f32 (fadd .f32 (fmul .f32 a.1 b.1) (fmul .f32 a.2.1 b.2.1)) (fmul .f32 a.2.2.1 b.2.2.1)) (fmul .f32 a.2.2.2.1 b.2.2.2.1))

def g_i_LengthOfTurn (t : dTurn) : Option (Nat) :=
  Option.bind (g_i_RootNumber (t_i_InnerOfTurns t t)) fun y1 =>
  some y1


def g_i_isLength (n : Nat) : Option (Bool) :=
  bif (t_i_IsFinite n) then
    some (!(feq .f32 n 0))
  else
    some false

def t_i_isLength (n : Nat) : Bool :=
  bif (t_i_IsFinite n) then
    (!(feq .f32 n 0))
  else
    false

theorem q_i_isLength (n : Nat) : g_i_isLength n = some (t_i_isLength n) := by
  unfold g_i_isLength t_i_isLength; simp only [bif_some_some]


def t_i_NoTurn  : dTurn :=
  (1065353216, (0, (0, (0, ()))))

def g_i_MendTurn (t : dTurn) : Option (dTurn) :=
  Option.bind (g_i_LengthOfTurn t) fun y1 =>
  bif (!(t_i_isLength y1)) then
    some t_i_NoTurn
  else
    some ((fdiv .f32 t.1 y1), ((fdiv .f32 t.2.1 y1), ((fdiv .f32 t.2.2.1 y1), ((fdiv .f32 t.2.2.2.1 y1), ()))))


def t_i_InverseOf (t : dTurn) : dTurn :=
  (t.1, ((fneg .f32 t.2.1), ((fneg .f32 t.2.2.1), ((fneg .f32 t.2.2.2.1), ()))))

def t_i_MulTurns (a : dTurn) (b : dTurn) : dTurn :=
  ((fsub .f32 (fsub .f32 (fsub .f32 (fmul .f32 a.1 b.1) (fmul .f32 a.2.1 b.2.1)) (fmul .f32 a.2.2.1 b.2.2.1)) (fmul .f32 a.2.2.2.1 b.2.2.2.1)), ((fsub .f32 (fadd .f32 (fadd .f32 (fmul .f32 a.1 b.2.1) (fmul .f32 a.2.1 b.1)) (fmul .f32 a.2.2.1 b.2.2.2.1)) (fmul .f32 a.2.2.2.1 b.2.2.1)), ((fadd .f32 (fadd .f32 (fsub .f32 (fmul .f32 a.1 b.2.2.1) (fmul .f32 a.2.1 b.2.2.2.1)) (fmul .f32 a.2.2.1 b.1)) (fmul .f32 a.2.2.2.1 b.2.1)), ((fadd .f32 (fsub .f32 (fadd .f32 (fmul .f32 a.1 b.2.2.2.1) (fmul .f32 a.2.1 b.2.2.1)) (fmul .f32 a.2.2.1 b.2.1)) (fmul .f32 a.2.2.2.1 b.1)), ()))))

def g_i_isPositive (xx : Nat) : Option (Bool) :=
  bif (t_i_IsFinite xx) then
    some (fgt .f32 xx 0)
  else
    some false

def t_i_isPositive (xx : Nat) : Bool :=
  bif (t_i_IsFinite xx) then
    (fgt .f32 xx 0)
  else
    false

theorem q_i_isPositive (xx : Nat) : g_i_isPositive xx = some (t_i_isPositive xx) := by
  unfold g_i_isPositive t_i_isPositive; simp only [bif_some_some]


def g_i_Vector_over (v : dVec) (n : Nat) : Option (dVec) :=
  some ((fdiv .f32 v.1 n), ((fdiv .f32 v.2.1 n), ((fdiv .f32 v.2.2.1 n), ())))

def t_i_Vector_over (v : dVec) (n : Nat) : dVec :=
  ((fdiv .f32 v.1 n), ((fdiv .f32 v.2.1 n), ((fdiv .f32 v.2.2.1 n), ())))

theorem q_i_Vector_over (v : dVec) (n : Nat) : g_i_Vector_over v n = some (t_i_Vector_over v n) := rfl


def g_i_TwoBones (a : Nat) (b : Nat) (goal : dVec) (pole : dVec) : Option ((dVec × (dVec × (Bool × Unit)))) :=
  let e1 := ((0, (0, (0, ()))), ((0, (0, (0, ()))), (false, ())))
  let e2 := (fdiv .f32 (fadd .f32 (fsub .f32 (fmul .f32 a a) (fmul .f32 b b)) (fmul .f32 (fadd .f32 a b) (fadd .f32 a b))) (fmul .f32 1073741824 (fadd .f32 a b)))
  let e3 := (fsub .f32 (fmul .f32 a a) (fmul .f32 e2 e2))
  Option.bind (g_i_LongOf goal) fun y4 =>
  let e5 := ((t_i_ScaleVector (t_i_Vector_over goal y4) y4), (true, ()))
  let e6 := (t_i_LessVectors pole (t_i_ScaleVector (t_i_Vector_over goal y4) (t_i_InnerOf pole (t_i_Vector_over goal y4))))
  let e7 := ((t_i_ScaleVector (t_i_Vector_over goal y4) (fadd .f32 a b)), (true, ()))
  let e8 := (g_i_LongOf e6)
  let e9 := (fdiv .f32 (fadd .f32 (fsub .f32 (fmul .f32 a a) (fmul .f32 b b)) (fmul .f32 y4 y4)) (fmul .f32 1073741824 y4))
  let e10 := (t_i_ScaleVector (t_i_Vector_over goal y4) e9)
  let e11 := (t_i_ScaleVector (t_i_Vector_over goal y4) e2)
  let e12 := (fsub .f32 (fmul .f32 a a) (fmul .f32 e9 e9))
  bif (!(t_i_isPositive a)) then
    some e1
  else
    bif (!(t_i_isPositive b)) then
      some e1
    else
      bif (!(t_i_isLength y4)) then
        some e1
      else
        bif (fgt .f32 y4 (fadd .f32 a b)) then
          bif (!(fgt .f32 e3 0)) then
            Option.bind (g_i_RootNumber 0) fun y13 =>
            Option.bind e8 fun y14 =>
            bif (!(t_i_isLength y14)) then
              some e1
            else
              some ((t_i_AddVectors e11 (t_i_ScaleVector (t_i_Vector_over e6 y14) y13)), e7)
          else
            Option.bind (g_i_RootNumber e3) fun y15 =>
            Option.bind e8 fun y16 =>
            bif (!(t_i_isLength y16)) then
              some e1
            else
              some ((t_i_AddVectors e11 (t_i_ScaleVector (t_i_Vector_over e6 y16) y15)), e7)
        else
          bif (!(fgt .f32 e12 0)) then
            Option.bind (g_i_RootNumber 0) fun y17 =>
            Option.bind e8 fun y18 =>
            bif (!(t_i_isLength y18)) then
              some e1
            else
              some ((t_i_AddVectors e10 (t_i_ScaleVector (t_i_Vector_over e6 y18) y17)), e5)
          else
            Option.bind (g_i_RootNumber e12) fun y19 =>
            Option.bind e8 fun y20 =>
            bif (!(t_i_isLength y20)) then
              some e1
            else
              some ((t_i_AddVectors e10 (t_i_ScaleVector (t_i_Vector_over e6 y20) y19)), e5)


def g_s_l04Length (xx : Nat) : Option (Bool) :=
  bif (t_s_l01Finite xx) then
    some (fgt .f32 xx 0)
  else
    some false

def t_s_l04Length (xx : Nat) : Bool :=
  bif (t_s_l01Finite xx) then
    (fgt .f32 xx 0)
  else
    false

theorem q_s_l04Length (xx : Nat) : g_s_l04Length xx = some (t_s_l04Length xx) := by
  unfold g_s_l04Length t_s_l04Length; simp only [bif_some_some]


def g_s_TwoBones (a : Nat) (b : Nat) (goal : dVec) (pole : dVec) : Option ((dVec × (dVec × (Bool × Unit)))) :=
  let e1 := ((0, (0, (0, ()))), ((0, (0, (0, ()))), (false, ())))
  let e2 := (fdiv .f32 (fadd .f32 (fsub .f32 (fmul .f32 a a) (fmul .f32 b b)) (fmul .f32 (fadd .f32 a b) (fadd .f32 a b))) (fmul .f32 1073741824 (fadd .f32 a b)))
  let e3 := (fsub .f32 (fmul .f32 a a) (fmul .f32 e2 e2))
  Option.bind (g_s_l01Long goal) fun y4 =>
  let e5 := (fdiv .f32 (fadd .f32 (fsub .f32 (fmul .f32 a a) (fmul .f32 b b)) (fmul .f32 y4 y4)) (fmul .f32 1073741824 y4))
  let e6 := ((fdiv .f32 goal.1 y4), ((fdiv .f32 goal.2.1 y4), ((fdiv .f32 goal.2.2.1 y4), ())))
  let e7 := ((t_s_l01Scale e6 y4), (true, ()))
  let e8 := ((t_s_l01Scale e6 (fadd .f32 a b)), (true, ()))
  let e9 := (fsub .f32 (fmul .f32 a a) (fmul .f32 e5 e5))
  let e10 := (t_s_l01Scale e6 e5)
  let e11 := (t_s_l01Scale e6 e2)
  let e12 := (t_s_l01Less pole (t_s_l01Scale e6 (t_s_l01Inner pole e6)))
  let e13 := (g_s_l01Long e12)
  bif (!(t_s_l04Length a)) then
    some e1
  else
    bif (!(t_s_l04Length b)) then
      some e1
    else
      bif (!(t_s_l04Length y4)) then
        some e1
      else
        bif (fgt .f32 y4 (fadd .f32 a b)) then
          bif (!(fgt .f32 e3 0)) then
            Option.bind (g_s_l01Sqrt 0) fun y14 =>
            Option.bind e13 fun y15 =>
            bif (!(t_s_l04Length y15)) then
              some e1
            else
              some ((t_s_l01Add e11 (t_s_l01Scale ((fdiv .f32 e12.1 y15), ((fdiv .f32 e12.2.1 y15), ((fdiv .f32 e12.2.2.1 y15), ()))) y14)), e8)
          else
            Option.bind (g_s_l01Sqrt e3) fun y16 =>
            Option.bind e13 fun y17 =>
            bif (!(t_s_l04Length y17)) then
              some e1
            else
              some ((t_s_l01Add e11 (t_s_l01Scale ((fdiv .f32 e12.1 y17), ((fdiv .f32 e12.2.1 y17), ((fdiv .f32 e12.2.2.1 y17), ()))) y16)), e8)
        else
          bif (!(fgt .f32 e9 0)) then
            Option.bind (g_s_l01Sqrt 0) fun y18 =>
            Option.bind e13 fun y19 =>
            bif (!(t_s_l04Length y19)) then
              some e1
            else
              some ((t_s_l01Add e10 (t_s_l01Scale ((fdiv .f32 e12.1 y19), ((fdiv .f32 e12.2.1 y19), ((fdiv .f32 e12.2.2.1 y19), ()))) y18)), e7)
          else
            Option.bind (g_s_l01Sqrt e9) fun y20 =>
            Option.bind e13 fun y21 =>
            bif (!(t_s_l04Length y21)) then
              some e1
            else
              some ((t_s_l01Add e10 (t_s_l01Scale ((fdiv .f32 e12.1 y21), ((fdiv .f32 e12.2.1 y21), ((fdiv .f32 e12.2.2.1 y21), ()))) y20)), e7)


def g_w_r8Along (a : dVec) (b : dVec) : Option (Bool) :=
  bif (feq .f64 (fsub .f64 (fmul .f64 (fwide a.2.1) (fwide b.2.2.1)) (fmul .f64 (fwide a.2.2.1) (fwide b.2.1))) 0) then
    bif (feq .f64 (fsub .f64 (fmul .f64 (fwide a.2.2.1) (fwide b.1)) (fmul .f64 (fwide a.1) (fwide b.2.2.1))) 0) then
      some (feq .f64 (fsub .f64 (fmul .f64 (fwide a.1) (fwide b.2.1)) (fmul .f64 (fwide a.2.1) (fwide b.1))) 0)
    else
      some false
  else
    some false

def t_w_r8Along (a : dVec) (b : dVec) : Bool :=
  bif (feq .f64 (fsub .f64 (fmul .f64 (fwide a.2.1) (fwide b.2.2.1)) (fmul .f64 (fwide a.2.2.1) (fwide b.2.1))) 0) then
    bif (feq .f64 (fsub .f64 (fmul .f64 (fwide a.2.2.1) (fwide b.1)) (fmul .f64 (fwide a.1) (fwide b.2.2.1))) 0) then
      (feq .f64 (fsub .f64 (fmul .f64 (fwide a.1) (fwide b.2.1)) (fmul .f64 (fwide a.2.1) (fwide b.1))) 0)
    else
      false
  else
    false

theorem q_w_r8Along (a : dVec) (b : dVec) : g_w_r8Along a b = some (t_w_r8Along a b) := by
  unfold g_w_r8Along t_w_r8Along; simp only [bif_some_some]


def L_i_CanReach_1 (rec' : (Nat × Bool × Nat × Nat × (List Nat) × Int × Int × Unit) × (Unit) → Option (Bool × ((Nat × Bool × Nat × Nat × Unit) × (Unit)))) (x : (Nat × Bool × Nat × Nat × (List Nat) × Int × Int × Unit) × (Unit)) : Option (Bool × ((Nat × Bool × Nat × Nat × Unit) × (Unit))) := match x with
  | ((distance, t4, s, g, t23, t24, t25, ()), (())) =>
    let e1 := (true, ((distance, (false, (s, (g, ())))), ()))
    bif (ilt t25 t24) then
      Option.bind (ix t25 (List.length t23)) fun j2 =>
      bif (!(t_i_IsFinite (List.getD t23 j2 (0 : Nat)))) then
        some e1
      else
        bif (flt .f32 (List.getD t23 j2 (0 : Nat)) 0) then
          some e1
        else
          rec' ((distance, (t4, ((fadd .f64 s (fwide (List.getD t23 j2 (0 : Nat)))), ((fmax .f64 g (fwide (List.getD t23 j2 (0 : Nat)))), (t23, (t24, ((iadd .i64 t25 1), ()))))))), ())
    else
      some (false, ((distance, (t4, (s, (g, ())))), ()))

def g_i_CanReach (lengths : (List Nat)) (distance : Nat) : Option (Bool) :=
  bif (ilt (((List.length lengths) : Nat) : Int) 1) then
    some false
  else
    bif (ilt 16 (((List.length lengths) : Nat) : Int)) then
      some false
    else
      bif (!(t_i_IsFinite distance)) then
        some false
      else
        Option.bind (iter L_i_CanReach_1 fuel ((distance, (false, (0, (0, (lengths, ((((List.length lengths) : Nat) : Int), (0, ()))))))), ())) fun y1 =>
        bif y1.1 then
          some y1.2.1.2.1
        else
          bif (fge .f64 (fwide y1.2.1.1) (fmax .f64 (fsub .f64 (fmul .f64 4611686018427387904 y1.2.1.2.2.2.1) y1.2.1.2.2.1) 0)) then
            some (fle .f64 (fwide y1.2.1.1) y1.2.1.2.2.1)
          else
            some false


def g_w_FnTwoBones (code : (List Int)) (more : (List Int)) : Option (Bool) :=
  bif (t_w_r8Long code more) then
    some true
  else
    Option.bind (g_w_r8At code 40 20) fun y1 =>
    Option.bind (g_w_r8At code 41 20) fun y2 =>
    let e3 := (fadd .f32 (fdiv .f32 (fofInt .f32 (iadd .i64 1 y1)) 1082130432) (fdiv .f32 (fofInt .f32 (iadd .i64 1 y2)) 1082130432))
    let e4 := [(fdiv .f32 (fofInt .f32 (iadd .i64 1 y1)) 1082130432), (fdiv .f32 (fofInt .f32 (iadd .i64 1 y2)) 1082130432)]
    let e5 := (fwide e3)
    let e6 := (g_i_CanReach e4 e3)
    Option.bind (g_s_R8Small code) fun y7 =>
    Option.bind (g_s_R8Small more) fun y8 =>
    Option.bind (g_i_LongOf y7) fun y9 =>
    let e10 := (fgt .f32 y9 e3)
    let e11 := (g_i_CanReach e4 y9)
    Option.bind (g_i_TwoBones (fdiv .f32 (fofInt .f32 (iadd .i64 1 y1)) 1082130432) (fdiv .f32 (fofInt .f32 (iadd .i64 1 y2)) 1082130432) y7 y8) fun y12 =>
    let e13 := (g_i_LongOf (t_i_LessVectors (t_i_ScaleVector y12.2.1 y9) (t_i_ScaleVector y7 y9)))
    let e14 := (g_i_LongOf (t_i_LessVectors (t_i_ScaleVector y12.2.1 y9) (t_i_ScaleVector y7 e3)))
    let e15 := (fge .f64 (fmul .f64 (fmul .f64 (fwide (t_i_InnerOf y12.1 y8)) (fwide y9)) (fwide y9)) (fsub .f64 (fmul .f64 (fwide (t_i_InnerOf y12.1 y7)) (fwide (t_i_InnerOf y7 y8))) (fmul .f64 4591870180066957722 (fwide (fadd .f32 1065353216 (fmul .f32 y9 y9))))))
    Option.bind (g_s_TwoBones (fdiv .f32 (fofInt .f32 (iadd .i64 1 y1)) 1082130432) (fdiv .f32 (fofInt .f32 (iadd .i64 1 y2)) 1082130432) y7 y8) fun y16 =>
    bif (!(y12.2.2.1 == y16.2.2.1)) then
      some false
    else
      bif y12.2.2.1 then
        bif (feq .f32 y9 0) then
          some false
        else
          bif (t_w_r8Along y7 y8) then
            some true
          else
            bif (!y12.2.2.1) then
              Option.bind (g_i_CanReach [] y9) fun y17 =>
              some (!y17)
            else
              Option.bind (g_i_LongOf y12.2.1) fun y18 =>
              bif e10 then
                bif (fgt .f64 (t_w_r8Gap (fwide y18) e5) 4562254508917369340) then
                  some false
                else
                  Option.bind e14 fun y19 =>
                  bif (fgt .f64 (fwide y19) 4576918229304087675) then
                    some false
                  else
                    Option.bind e6 fun y20 =>
                    bif (!y20) then
                      some true
                    else
                      Option.bind (g_i_LongOf y12.1) fun y21 =>
                      bif (flt .f64 (t_w_r8Gap (fwide y21) (fwide (fdiv .f32 (fofInt .f32 (iadd .i64 1 y1)) 1082130432))) 4576918229304087675) then
                        Option.bind (g_i_LongOf (t_i_LessVectors y12.2.1 y12.1)) fun y22 =>
                        bif (flt .f64 (t_w_r8Gap (fwide y22) (fwide (fdiv .f32 (fofInt .f32 (iadd .i64 1 y2)) 1082130432))) 4576918229304087675) then
                          some e15
                        else
                          some false
                      else
                        some false
              else
                bif (fgt .f64 (t_w_r8Gap (fwide y18) (fwide y9)) 4562254508917369340) then
                  some false
                else
                  Option.bind e13 fun y23 =>
                  bif (fgt .f64 (fwide y23) 4576918229304087675) then
                    some false
                  else
                    Option.bind e11 fun y24 =>
                    bif (!y24) then
                      some true
                    else
                      Option.bind (g_i_LongOf y12.1) fun y25 =>
                      bif (flt .f64 (t_w_r8Gap (fwide y25) (fwide (fdiv .f32 (fofInt .f32 (iadd .i64 1 y1)) 1082130432))) 4576918229304087675) then
                        Option.bind (g_i_LongOf (t_i_LessVectors y12.2.1 y12.1)) fun y26 =>
                        bif (flt .f64 (t_w_r8Gap (fwide y26) (fwide (fdiv .f32 (fofInt .f32 (iadd .i64 1 y2)) 1082130432))) 4576918229304087675) then
                          some e15
                        else
                          some false
                      else
                        some false
      else
        bif (t_w_r8Along y7 y8) then
          some true
        else
          bif (!y12.2.2.1) then
            Option.bind (g_i_CanReach [] y9) fun y27 =>
            some (!y27)
          else
            Option.bind (g_i_LongOf y12.2.1) fun y28 =>
            bif e10 then
              bif (fgt .f64 (t_w_r8Gap (fwide y28) e5) 4562254508917369340) then
                some false
              else
                Option.bind e14 fun y29 =>
                bif (fgt .f64 (fwide y29) 4576918229304087675) then
                  some false
                else
                  Option.bind e6 fun y30 =>
                  bif (!y30) then
                    some true
                  else
                    Option.bind (g_i_LongOf y12.1) fun y31 =>
                    bif (flt .f64 (t_w_r8Gap (fwide y31) (fwide (fdiv .f32 (fofInt .f32 (iadd .i64 1 y1)) 1082130432))) 4576918229304087675) then
                      Option.bind (g_i_LongOf (t_i_LessVectors y12.2.1 y12.1)) fun y32 =>
                      bif (flt .f64 (t_w_r8Gap (fwide y32) (fwide (fdiv .f32 (fofInt .f32 (iadd .i64 1 y2)) 1082130432))) 4576918229304087675) then
                        some e15
                      else
                        some false
                    else
                      some false
            else
              bif (fgt .f64 (t_w_r8Gap (fwide y28) (fwide y9)) 4562254508917369340) then
                some false
              else
                Option.bind e13 fun y33 =>
                bif (fgt .f64 (fwide y33) 4576918229304087675) then
                  some false
                else
                  Option.bind e11 fun y34 =>
                  bif (!y34) then
                    some true
                  else
                    Option.bind (g_i_LongOf y12.1) fun y35 =>
                    bif (flt .f64 (t_w_r8Gap (fwide y35) (fwide (fdiv .f32 (fofInt .f32 (iadd .i64 1 y1)) 1082130432))) 4576918229304087675) then
                      Option.bind (g_i_LongOf (t_i_LessVectors y12.2.1 y12.1)) fun y36 =>
                      bif (flt .f64 (t_w_r8Gap (fwide y36) (fwide (fdiv .f32 (fofInt .f32 (iadd .i64 1 y2)) 1082130432))) 4576918229304087675) then
                        some e15
                      else
                        some false
                    else
                      some false


end
end Go.Fw
