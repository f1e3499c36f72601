/- What the functions compute, as plain Lean functions. No condition. -/
import Derived.Test.YthmpjkfccbchfaaSPure
set_option linter.unusedVariables false
namespace Go.Fw
noncomputable section
def g_w_b10Long (code : (List Int)) (more : (List Int)) : Option (Bool) :=
  bif (ilt 1048576 (((List.length code) : Nat) : Int)) then
    some true
  else
    some (ilt 1048576 (((List.length more) : Nat) : Int))

def t_w_b10Long (code : (List Int)) (more : (List Int)) : Bool :=
  bif (ilt 1048576 (((List.length code) : Nat) : Int)) then
    true
  else
    (ilt 1048576 (((List.length more) : Nat) : Int))

theorem q_w_b10Long (code : (List Int)) (more : (List Int)) : g_w_b10Long code more = some (t_w_b10Long code more) := by
  unfold g_w_b10Long t_w_b10Long; simp only [bif_some_some]


def g_s_B10Number (code : (List Int)) : Option (Nat) :=
  Option.bind (g_s_l00Src_one (t_s_l00From code).1 2) fun y1 =>
  bif y1.1 then
    Option.bind (g_s_l00Src_pick y1.2.1 65536) fun y2 =>
    Option.bind (g_s_l00Src_pick y2.2.1 65536) fun y3 =>
    some (t_s_l01From (iadd .i64 (imul .i64 y2.1 65536) y3.1))
  else
    Option.bind (g_s_l01DrawFloat y1.2.1) fun y4 =>
    some y4.1


def g_i_BitsOf (xx : Nat) : Option (Int) :=
  bif (!(feq .f32 xx xx)) then
    some 2143289344
  else
    Option.bind (g_float32bits xx) fun y1 =>
    some (iconv .i64 y1)


def g_i_FromBits (n : Int) : Option ((Nat × (Bool × Unit))) :=
  bif (ilt n 0) then
    some (0, (false, ()))
  else
    bif (ilt 4294967295 n) then
      some (0, (false, ()))
    else
      some ((t_float32frombits (iconv .u32 n)), (true, ()))

def t_i_FromBits (n : Int) : (Nat × (Bool × Unit)) :=
  bif (ilt n 0) then
    (0, (false, ()))
  else
    bif (ilt 4294967295 n) then
      (0, (false, ()))
    else
      ((t_float32frombits (iconv .u32 n)), (true, ()))

theorem q_i_FromBits (n : Int) : g_i_FromBits n = some (t_i_FromBits n) := by
  unfold g_i_FromBits t_i_FromBits; simp only [bif_some_some]


def g_i_NextUp (xx : Nat) : Option (Nat) :=
  bif (!(feq .f32 xx xx)) then
    some xx
  else
    bif (fgt .f32 xx 2139095039) then
      some xx
    else
      bif (feq .f32 xx 0) then
        some 1
      else
        bif (fgt .f32 xx 0) then
          Option.bind (g_float32bits xx) fun y1 =>
          some (t_float32frombits (iadd .u32 y1 1))
        else
          Option.bind (g_float32bits xx) fun y2 =>
          some (t_float32frombits (isub .u32 y2 1))


def g_i_NextDown (xx : Nat) : Option (Nat) :=
  Option.bind (g_i_NextUp (fneg .f32 xx)) fun y1 =>
  some (fneg .f32 y1)


def g_w_FnBits (code : (List Int)) (more : (List Int)) : Option (Bool) :=
  bif (t_w_b10Long code more) then
    some true
  else
    Option.bind (g_s_B10Number code) fun y1 =>
    Option.bind (g_s_B10Number more) fun y2 =>
    Option.bind (g_i_BitsOf y1) fun y3 =>
    bif (!(t_i_FromBits y3).2.1) then
      some false
    else
      bif (ilt y3 0) then
        some false
      else
        bif (ilt 4294967295 y3) then
          some false
        else
          Option.bind (g_i_SameNumber (t_i_FromBits y3).1 y1) fun y4 =>
          bif (!y4) then
            some false
          else
            Option.bind (g_i_SameNumber y1 y2) fun y5 =>
            Option.bind (g_i_BitsOf y2) fun y6 =>
            bif (!(y5 == (ieq y3 y6))) then
              some false
            else
              bif (!((!(feq .f32 y1 y1)) == (ieq y3 2143289344))) then
                some false
              else
                bif (!((t_i_IsFinite y1) == (!(ieq (iand .i64 y3 2139095040) 2139095040)))) then
                  some false
                else
                  Option.bind (g_i_NextUp y1) fun y7 =>
                  Option.bind (g_i_NextDown y1) fun y8 =>
                  bif (!(feq .f32 y1 y1)) then
                    bif (!(feq .f32 y7 y7)) then
                      some (!(feq .f32 y8 y8))
                    else
                      some false
                  else
                    bif (!(t_i_IsFinite y1)) then
                      bif (fgt .f32 y1 0) then
                        bif (feq .f32 y7 y1) then
                          bif (flt .f32 y8 y1) then
                            some true
                          else
                            bif (flt .f32 y1 0) then
                              bif (fgt .f32 y7 y1) then
                                some (feq .f32 y8 y1)
                              else
                                some false
                            else
                              some false
                        else
                          bif (flt .f32 y1 0) then
                            bif (fgt .f32 y7 y1) then
                              some (feq .f32 y8 y1)
                            else
                              some false
                          else
                            some false
                      else
                        bif (flt .f32 y1 0) then
                          bif (fgt .f32 y7 y1) then
                            some (feq .f32 y8 y1)
                          else
                            some false
                        else
                          some false
                    else
                      bif (!(fgt .f32 y7 y1)) then
                        some false
                      else
                        bif (!(flt .f32 y8 y1)) then
                          some false
                        else
                          bif (fgt .f32 y2 y1) then
                            bif (flt .f32 y2 y7) then
                              some false
                            else
                              bif (flt .f32 y2 y1) then
                                bif (fgt .f32 y2 y8) then
                                  some false
                                else
                                  Option.bind (g_i_NextDown y7) fun y9 =>
                                  bif (feq .f32 y9 y1) then
                                    Option.bind (g_i_NextUp y8) fun y10 =>
                                    some (feq .f32 y10 y1)
                                  else
                                    some false
                              else
                                Option.bind (g_i_NextDown y7) fun y11 =>
                                bif (feq .f32 y11 y1) then
                                  Option.bind (g_i_NextUp y8) fun y12 =>
                                  some (feq .f32 y12 y1)
                                else
                                  some false
                          else
                            bif (flt .f32 y2 y1) then
                              bif (fgt .f32 y2 y8) then
                                some false
                              else
                                Option.bind (g_i_NextDown y7) fun y13 =>
                                bif (feq .f32 y13 y1) then
                                  Option.bind (g_i_NextUp y8) fun y14 =>
                                  some (feq .f32 y14 y1)
                                else
                                  some false
                            else
                              Option.bind (g_i_NextDown y7) fun y15 =>
                              bif (feq .f32 y15 y1) then
                                Option.bind (g_i_NextUp y8) fun y16 =>
                                some (feq .f32 y16 y1)
                              else
                                some false


end
end Go.Fw
