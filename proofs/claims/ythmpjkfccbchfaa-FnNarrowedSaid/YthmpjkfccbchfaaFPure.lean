/- What the functions compute, as plain Lean functions. No condition. -/
import Derived.Test.YthmpjkfccbchfaaSPure
set_option linter.unusedVariables false
namespace Go.Fw
noncomputable section
def g_w_b10Long (code : (List Int)) (more : (List Int)) : Option (Bool) :=
  bif (ilt 1048576 (((List.length code) : Nat) : Int)) then
    some true
  else
    some (ilt 1048576 (((List.length more) : Nat) : Int))

def t_w_b10Long (code : (List Int)) (more : (List Int)) : Bool :=
  bif (ilt 1048576 (((List.length code) : Nat) : Int)) then
    true
  else
    (ilt 1048576 (((List.length more) : Nat) : Int))

theorem q_w_b10Long (code : (List Int)) (more : (List Int)) : g_w_b10Long code more = some (t_w_b10Long code more) := by
  unfold g_w_b10Long t_w_b10Long; simp only [bif_some_some]


def g_s_B10Number (code : (List Int)) : Option (Nat) :=
  Option.bind (g_s_l00Src_one (t_s_l00From code).1 2) fun y1 =>
  bif y1.1 then
    Option.bind (g_s_l00Src_pick y1.2.1 65536) fun y2 =>
    Option.bind (g_s_l00Src_pick y2.2.1 65536) fun y3 =>
    some (t_s_l01From (iadd .i64 (imul .i64 y2.1 65536) y3.1))
  else
    Option.bind (g_s_l01DrawFloat y1.2.1) fun y4 =>
    some y4.1


def g_i_NarrowNumber (xx : Nat) : Option (Nat) :=
  Option.bind (fconv .f64 .f32 xx) fun y1 =>
  some y1


def g_s_SameNumber (a : Nat) (b : Nat) : Option (Bool) :=
  Option.bind (g_s_l01Same a b) fun y1 =>
  some y1


def g_s_l01Next (xx : Nat) : Option (Nat) :=
  Option.bind (g_s_l01Bits xx) fun y1 =>
  bif (!(feq .f32 xx xx)) then
    some xx
  else
    bif (ieq y1 2139095040) then
      some xx
    else
      bif (feq .f32 xx 0) then
        some (t_s_l01From 1)
      else
        bif (fgt .f32 xx 0) then
          some (t_s_l01From (iadd .i64 y1 1))
        else
          some (t_s_l01From (isub .i64 y1 1))


def g_s_NextUp (xx : Nat) : Option (Nat) :=
  Option.bind (g_s_l01Next xx) fun y1 =>
  some y1


def g_s_IsFinite (xx : Nat) : Option (Bool) :=
  some (t_s_l01Finite xx)

def t_s_IsFinite (xx : Nat) : Bool :=
  (t_s_l01Finite xx)

theorem q_s_IsFinite (xx : Nat) : g_s_IsFinite xx = some (t_s_IsFinite xx) := rfl


def g_s_BitsOf (xx : Nat) : Option (Int) :=
  Option.bind (g_s_l01Bits xx) fun y1 =>
  some y1


def g_w_FnNarrowed (code : (List Int)) (more : (List Int)) : Option (Bool) :=
  bif (t_w_b10Long code more) then
    some true
  else
    Option.bind (g_s_B10Number code) fun y1 =>
    Option.bind (g_i_NarrowNumber (fwide y1)) fun y2 =>
    Option.bind (g_s_SameNumber y2 y1) fun y3 =>
    bif (!y3) then
      some false
    else
      Option.bind (g_s_NextUp y1) fun y4 =>
      let e5 := (g_i_NarrowNumber (fdiv .f64 (fadd .f64 (fwide y1) (fdiv .f64 (fadd .f64 (fwide y1) (fwide y4)) 4611686018427387904)) 4611686018427387904))
      let e6 := (g_i_NarrowNumber (fdiv .f64 (fadd .f64 (fwide y4) (fdiv .f64 (fadd .f64 (fwide y1) (fwide y4)) 4611686018427387904)) 4611686018427387904))
      bif (!(t_s_IsFinite y1)) then
        some true
      else
        bif (!(t_s_IsFinite y4)) then
          some true
        else
          Option.bind (g_s_BitsOf y1) fun y7 =>
          bif (ieq (irem .i64 y7 2) 1) then
            Option.bind (g_i_NarrowNumber (fdiv .f64 (fadd .f64 (fwide y1) (fwide y4)) 4611686018427387904)) fun y8 =>
            bif (feq .f32 y8 y4) then
              Option.bind e5 fun y9 =>
              bif (feq .f32 y9 y1) then
                Option.bind e6 fun y10 =>
                some (feq .f32 y10 y4)
              else
                some false
            else
              some false
          else
            Option.bind (g_i_NarrowNumber (fdiv .f64 (fadd .f64 (fwide y1) (fwide y4)) 4611686018427387904)) fun y11 =>
            bif (feq .f32 y11 y1) then
              Option.bind e5 fun y12 =>
              bif (feq .f32 y12 y1) then
                Option.bind e6 fun y13 =>
                some (feq .f32 y13 y4)
              else
                some false
            else
              some false


end
end Go.Fw
