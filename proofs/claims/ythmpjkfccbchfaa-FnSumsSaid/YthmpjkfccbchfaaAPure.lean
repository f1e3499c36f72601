/- What the functions compute, as plain Lean functions. No condition. -/
import Derived.Test.YthmpjkfccbchfaaGenTypes
set_option linter.unusedVariables false
namespace Go.Fw
noncomputable section
def t_i_AddVectors (a : dVec) (b : dVec) : dVec :=
  ((fadd .f32 a.1 b.1), ((fadd .f32 a.2.1 b.2.1), ((fadd .f32 a.2.2.1 b.2.2.1), ())))

def t_i_ScaleVector (v : dVec) (byx : Nat) : dVec :=
  ((fmul .f32 v.1 byx), ((fmul .f32 v.2.1 byx), ((fmul .f32 v.2.2.1 byx), ())))

def g_s_l01Bits (xx : Nat) : Option (Int) :=
  bif (!(feq .f32 xx xx)) then
    some 2143289344
  else
    Option.bind (g_float32bits xx) fun y1 =>
    some (iconv .i64 y1)


def g_s_l01Same (a : Nat) (b : Nat) : Option (Bool) :=
  Option.bind (g_s_l01Bits a) fun y1 =>
  Option.bind (g_s_l01Bits b) fun y2 =>
  some (ieq y1 y2)


end
end Go.Fw
