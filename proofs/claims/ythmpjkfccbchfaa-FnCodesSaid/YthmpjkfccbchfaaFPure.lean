/- What the functions compute, as plain Lean functions. No condition. -/
import Derived.Test.YthmpjkfccbchfaaSPure
set_option linter.unusedVariables false
namespace Go.Fw
noncomputable section
def g_i_isRange (low : Nat) (high : Nat) : Option (Bool) :=
  bif (t_i_IsFinite low) then
    bif (t_i_IsFinite high) then
      some (flt .f32 low high)
    else
      some false
  else
    some false

def t_i_isRange (low : Nat) (high : Nat) : Bool :=
  bif (t_i_IsFinite low) then
    bif (t_i_IsFinite high) then
      (flt .f32 low high)
    else
      false
  else
    false

theorem q_i_isRange (low : Nat) (high : Nat) : g_i_isRange low high = some (t_i_isRange low high) := by
  unfold g_i_isRange t_i_isRange; simp only [bif_some_some]


def g_i_areBits (bits : Int) : Option (Bool) :=
  bif (ile 2 bits) then
    some (ile bits 16)
  else
    some false

def t_i_areBits (bits : Int) : Bool :=
  bif (ile 2 bits) then
    (ile bits 16)
  else
    false

theorem q_i_areBits (bits : Int) : g_i_areBits bits = some (t_i_areBits bits) := by
  unfold g_i_areBits t_i_areBits; simp only [bif_some_some]


def g_i_codes (bits : Int) : Option (Int) :=
  bif (nonneg bits) then
    some (ishl .i64 1 bits)
  else
    none


def g_i_numberOf (code : Int) (low : Nat) (high : Nat) (bits : Int) : Option (Nat) :=
  Option.bind (g_i_codes bits) fun y1 =>
  Option.bind (fconv .f64 .f32 (fadd .f64 (fwide low) (fmul .f64 (fsub .f64 (fwide high) (fwide low)) (fdiv .f64 (fofInt .f64 code) (fofInt .f64 (isub .i64 y1 1)))))) fun y2 =>
  some y2


def g_i_NumberOf (code : Int) (low : Nat) (high : Nat) (bits : Int) : Option ((Nat × (Bool × Unit))) :=
  bif (!(t_i_isRange low high)) then
    some (0, (false, ()))
  else
    bif (!(t_i_areBits bits)) then
      some (0, (false, ()))
    else
      bif (ilt code 0) then
        some (0, (false, ()))
      else
        Option.bind (g_i_codes bits) fun y1 =>
        bif (ile y1 code) then
          some (0, (false, ()))
        else
          Option.bind (g_i_numberOf code low high bits) fun y2 =>
          some (y2, (true, ()))


def g_i_codeOf (xx : Nat) (low : Nat) (high : Nat) (bits : Int) : Option (Int) :=
  Option.bind (g_i_codes bits) fun y1 =>
  Option.bind (g_roundToEven (fmul .f64 (fdiv .f64 (fsub .f64 (fwide xx) (fwide low)) (fsub .f64 (fwide high) (fwide low))) (fofInt .f64 (isub .i64 y1 1)))) fun y2 =>
  Option.bind (floatToIntVal .f64 (fmin .f64 (fmax .f64 y2 0) (fofInt .f64 (isub .i64 y1 1))) .i64) fun n3 =>
  some n3


def g_i_CodeOf (xx : Nat) (low : Nat) (high : Nat) (bits : Int) : Option ((Int × (Bool × Unit))) :=
  bif (!(feq .f32 xx xx)) then
    some (0, (false, ()))
  else
    bif (!(t_i_isRange low high)) then
      some (0, (false, ()))
    else
      bif (!(t_i_areBits bits)) then
        some (0, (false, ()))
      else
        Option.bind (g_i_codeOf xx low high bits) fun y1 =>
        some (y1, (true, ()))


def g_w_FnCodes (code : (List Int)) (more : (List Int)) : Option (Bool) :=
  bif (t_w_r8Long code more) then
    some true
  else
    Option.bind (g_w_r8At code 0 15) fun y1 =>
    let e2 := (iadd .i64 (isub .i64 (ishl .i64 1 (iconv .u64 (iadd .i64 2 y1))) 1) 1)
    bif (nonneg (iconv .u64 (iadd .i64 2 y1))) then
      Option.bind (g_w_r8At code 1 33) fun y3 =>
      Option.bind (g_w_r8At code 2 32) fun y4 =>
      let e5 := (fadd .f32 (fdiv .f32 (fofInt .f32 (isub .i64 y3 16)) 1082130432) (fdiv .f32 (fofInt .f32 (iadd .i64 1 y4)) 1082130432))
      Option.bind (g_w_r8At more 0 256) fun y6 =>
      Option.bind (g_w_r8At more 1 256) fun y7 =>
      let e8 := (irem .i64 (iadd .i64 (imul .i64 256 y6) y7) e2)
      bif (nz e2) then
        Option.bind (g_i_NumberOf e8 (fdiv .f32 (fofInt .f32 (isub .i64 y3 16)) 1082130432) e5 (iadd .i64 2 y1)) fun y9 =>
        Option.bind (g_i_CodeOf y9.1 (fdiv .f32 (fofInt .f32 (isub .i64 y3 16)) 1082130432) e5 (iadd .i64 2 y1)) fun y10 =>
        Option.bind (g_s_R8Small more) fun y11 =>
        Option.bind (g_i_CodeOf y11.1 (fdiv .f32 (fofInt .f32 (isub .i64 y3 16)) 1082130432) e5 (iadd .i64 2 y1)) fun y12 =>
        Option.bind (g_i_NumberOf y12.1 (fdiv .f32 (fofInt .f32 (isub .i64 y3 16)) 1082130432) e5 (iadd .i64 2 y1)) fun y13 =>
        bif (!y9.2.1) then
          some false
        else
          bif (!y10.2.1) then
            some false
          else
            bif (!y12.2.1) then
              some false
            else
              bif (!y13.2.1) then
                some false
              else
                bif (!(ieq y10.1 e8)) then
                  some false
                else
                  bif (flt .f32 y9.1 (fdiv .f32 (fofInt .f32 (isub .i64 y3 16)) 1082130432)) then
                    some false
                  else
                    bif (fgt .f32 y9.1 e5) then
                      some false
                    else
                      bif (ilt y12.1 0) then
                        some false
                      else
                        bif (ilt (isub .i64 (ishl .i64 1 (iconv .u64 (iadd .i64 2 y1))) 1) y12.1) then
                          some false
                        else
                          bif (fle .f32 y11.1 (fdiv .f32 (fofInt .f32 (isub .i64 y3 16)) 1082130432)) then
                            some (ieq y12.1 0)
                          else
                            bif (fge .f32 y11.1 e5) then
                              some (ieq y12.1 (isub .i64 (ishl .i64 1 (iconv .u64 (iadd .i64 2 y1))) 1))
                            else
                              some (fle .f64 (t_w_r8Gap (fwide y13.1) (fwide y11.1)) (fadd .f64 (fdiv .f64 (fmul .f64 4602679719892572386 (fsub .f64 (fwide e5) (fwide (fdiv .f32 (fofInt .f32 (isub .i64 y3 16)) 1082130432)))) (fofInt .f64 (isub .i64 (ishl .i64 1 (iconv .u64 (iadd .i64 2 y1))) 1))) 4517329193108106637))
      else
        none
    else
      none


def t_i_CrossOf (a : dVec) (b : dVec) : dVec :=
  ((fsub .f32 (fmul .f32 a.2.1 b.2.2.1) (fmul .f32 a.2.2.1 b.2.1)), ((fsub .f32 (fmul .f32 a.2.2.1 b.1) (fmul .f32 a.1 b.2.2.1)), ((fsub .f32 (fmul .f32 a.1 b.2.1) (fmul .f32 a.2.1 b.1)), ())))

def t_i_InnerOfTurns (a : dTurn) (b : dTurn) : Nat :=
  (fadd .f32 (fadd .f32 (fadd .f32 (fmul .f32 a.1 b.1) (fmul .f32 a.2.1 b.2.1)) (fmul .f32 a.2.2.1 b.2.2.1)) (fmul .f32 a.2.2.2.1 b.2.2.2.1))

def t_i_InverseOf (t : dTurn) : dTurn :=
  (t.1, ((fneg .f32 t.2.1), ((fneg .f32 t.2.2.1), ((fneg .f32 t.2.2.2.1), ()))))

def t_i_MulTurns (a : dTurn) (b : dTurn) : dTurn :=
  ((fsub .f32 (fsub .f32 (fsub .f32 (fmul .f32 a.1 b.1) (fmul .f32 a.2.1 b.2.1)) (fmul .f32 a.2.2.1 b.2.2.1)) (fmul .f32 a.2.2.2.1 b.2.2.2.1)), ((fsub .f32 (fadd .f32 (fadd .f32 (fmul .f32 a.1 b.2.1) (fmul .f32 a.2.1 b.1)) (fmul .f32 a.2.2.1 b.2.2.2.1)) (fmul .f32 a.2.2.2.1 b.2.2.1)), ((fadd .f32 (fadd .f32 (fsub .f32 (fmul .f32 a.1 b.2.2.1) (fmul .f32 a.2.1 b.2.2.2.1)) (fmul .f32 a.2.2.1 b.1)) (fmul .f32 a.2.2.2.1 b.2.1)), ((fadd .f32 (fsub .f32 (fadd .f32 (fmul .f32 a.1 b.2.2.2.1) (fmul .f32 a.2.1 b.2.2.1)) (fmul .f32 a.2.2.1 b.2.1)) (fmul .f32 a.2.2.2.1 b.1)), ()))))

end
end Go.Fw
