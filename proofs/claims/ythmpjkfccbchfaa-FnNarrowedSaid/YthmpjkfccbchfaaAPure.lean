/- What the functions compute, as plain Lean functions. No condition. -/
import Derived.Test.YthmpjkfccbchfaaGenTypes
set_option linter.unusedVariables false
namespace Go.Fw
noncomputable section
def g_s_l01Finite (xx : Nat) : Option (Bool) :=
  some (feq .f32 (fsub .f32 xx xx) 0)

def t_s_l01Finite (xx : Nat) : Bool :=
  (feq .f32 (fsub .f32 xx xx) 0)

theorem q_s_l01Finite (xx : Nat) : g_s_l01Finite xx = some (t_s_l01Finite xx) := rfl


def g_s_l01Bits (xx : Nat) : Option (Int) :=
  bif (!(feq .f32 xx xx)) then
    some 2143289344
  else
    Option.bind (g_float32bits xx) fun y1 =>
    some (iconv .i64 y1)


def g_s_l01Same (a : Nat) (b : Nat) : Option (Bool) :=
  Option.bind (g_s_l01Bits a) fun y1 =>
  Option.bind (g_s_l01Bits b) fun y2 =>
  some (ieq y1 y2)


end
end Go.Fw
