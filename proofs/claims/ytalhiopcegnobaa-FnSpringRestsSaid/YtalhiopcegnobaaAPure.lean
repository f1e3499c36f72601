/- What the functions compute, as plain Lean functions. No condition. -/
import Derived.Test.YtalhiopcegnobaaGenTypes
set_option linter.unusedVariables false
namespace Go.Fw
noncomputable section
def g_s_l01Narrow (xx : Nat) : Option (Nat) :=
  Option.bind (fconv .f64 .f32 xx) fun y1 =>
  some y1


def g_math_Signbit (xx : Nat) : Option (Bool) :=
  Option.bind (g_float64bits xx) fun y1 =>
  some (ilt (iconv .i64 y1) 0)


def g_i_SameNumber (a : Nat) (b : Nat) : Option (Bool) :=
  bif (!(feq .f32 a a)) then
    bif (!(feq .f32 a a)) then
      some (!(feq .f32 b b))
    else
      some false
  else
    bif (!(feq .f32 b b)) then
      bif (!(feq .f32 a a)) then
        some (!(feq .f32 b b))
      else
        some false
    else
      bif (feq .f32 a b) then
        Option.bind (g_math_Signbit (fwide a)) fun y1 =>
        Option.bind (g_math_Signbit (fwide b)) fun y2 =>
        some (y1 == y2)
      else
        some false


end
end Go.Fw
