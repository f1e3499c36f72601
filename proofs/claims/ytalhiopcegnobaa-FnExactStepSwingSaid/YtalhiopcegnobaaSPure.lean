/- What the functions compute, as plain Lean functions. No condition. -/
import Derived.Test.YtalhiopcegnobaaCPure
set_option linter.unusedVariables false
namespace Go.Fw
noncomputable section
def g_s_l01Flush (xx : Nat) : Option (Nat) :=
  Option.bind (g_s_l01Bits xx) fun y1 =>
  bif (ieq (iand .i64 y1 2139095040) 0) then
    some (t_s_l01From (iand .i64 y1 2147483648))
  else
    some xx


def g_i_IsSubnormal (xx : Nat) : Option (Bool) :=
  bif (!(feq .f32 xx 0)) then
    some (flt .f64 (t_mathabs (fwide xx)) 4039728865751334912)
  else
    some false

def t_i_IsSubnormal (xx : Nat) : Bool :=
  bif (!(feq .f32 xx 0)) then
    (flt .f64 (t_mathabs (fwide xx)) 4039728865751334912)
  else
    false

theorem q_i_IsSubnormal (xx : Nat) : g_i_IsSubnormal xx = some (t_i_IsSubnormal xx) := by
  unfold g_i_IsSubnormal t_i_IsSubnormal; simp only [bif_some_some]


def g_math_Copysign (f : Nat) (sign : Nat) : Option (Nat) :=
  Option.bind (g_float64bits f) fun y1 =>
  Option.bind (g_float64bits sign) fun y2 =>
  some (t_float64frombits (ior .u64 (iandNot .u64 y1 9223372036854775808) (iand .u64 y2 9223372036854775808)))


def g_i_FlushNumber (xx : Nat) : Option (Nat) :=
  bif (t_i_IsSubnormal xx) then
    Option.bind (g_math_Copysign 0 (fwide xx)) fun y1 =>
    Option.bind (fconv .f64 .f32 y1) fun y2 =>
    some y2
  else
    some xx


def g_math_NaN  : Option (Nat) :=
  some (t_float64frombits 9221120237041090561)

def t_math_NaN  : Nat :=
  (t_float64frombits 9221120237041090561)

theorem q_math_NaN  : g_math_NaN  = some (t_math_NaN ) := rfl


def g_math_Trunc (xx : Nat) : Option (Nat) :=
  Option.bind (g_archTrunc xx) fun y1 =>
  some y1


def g_i_placesOf (turns : Nat) : Option (Nat) :=
  Option.bind (g_math_Trunc turns) fun y1 =>
  bif (!(feq .f64 y1 0)) then
    bif (flt .f64 (fsub .f64 turns y1) 0) then
      some (fadd .f64 (fsub .f64 turns y1) 4607182418800017408)
    else
      some (fsub .f64 turns y1)
  else
    bif (flt .f64 turns 0) then
      some (fadd .f64 turns 4607182418800017408)
    else
      some turns


def L_i_sine_1 (rec' : (Bool × Nat × Nat × Nat × Int × Unit) × (Unit) → Option ((Bool × Nat × Nat × Unit) × (Unit))) (x : (Bool × Nat × Nat × Nat × Int × Unit) × (Unit)) : Option ((Bool × Nat × Nat × Unit) × (Unit)) := match x with
  | ((turned, z, u, p, k, ()), (())) =>
    bif (ile 1 k) then
      rec' ((turned, (z, (u, ((fsub .f64 4607182418800017408 (fdiv .f64 (fmul .f64 u p) (fofInt .f64 (imul .i64 (imul .i64 2 k) (iadd .i64 (imul .i64 2 k) 1))))), ((isub .i64 k 1), ()))))), ())
    else
      some ((turned, (z, (p, ()))), ())

def g_i_sine (turns : Nat) : Option (Nat) :=
  Option.bind (g_i_placesOf turns) fun y1 =>
  bif (fge .f64 y1 4602678819172646912) then
    bif (fgt .f64 (fsub .f64 y1 4602678819172646912) 4598175219545276416) then
      Option.bind (iter L_i_sine_1 fuel (((fge .f64 y1 4602678819172646912), ((fmul .f64 (fsub .f64 4602678819172646912 (fsub .f64 y1 4602678819172646912)) 4618760256179416344), ((fmul .f64 (fmul .f64 (fsub .f64 4602678819172646912 (fsub .f64 y1 4602678819172646912)) 4618760256179416344) (fmul .f64 (fsub .f64 4602678819172646912 (fsub .f64 y1 4602678819172646912)) 4618760256179416344)), (4607182418800017408, (8, ()))))), ())) fun y2 =>
      let e3 := (fmul .f64 y2.1.2.1 y2.1.2.2.1)
      bif y2.1.1 then
        some (fneg .f64 e3)
      else
        some e3
    else
      Option.bind (iter L_i_sine_1 fuel (((fge .f64 y1 4602678819172646912), ((fmul .f64 (fsub .f64 y1 4602678819172646912) 4618760256179416344), ((fmul .f64 (fmul .f64 (fsub .f64 y1 4602678819172646912) 4618760256179416344) (fmul .f64 (fsub .f64 y1 4602678819172646912) 4618760256179416344)), (4607182418800017408, (8, ()))))), ())) fun y4 =>
      let e5 := (fmul .f64 y4.1.2.1 y4.1.2.2.1)
      bif y4.1.1 then
        some (fneg .f64 e5)
      else
        some e5
  else
    bif (fgt .f64 y1 4598175219545276416) then
      Option.bind (iter L_i_sine_1 fuel (((fge .f64 y1 4602678819172646912), ((fmul .f64 (fsub .f64 4602678819172646912 y1) 4618760256179416344), ((fmul .f64 (fmul .f64 (fsub .f64 4602678819172646912 y1) 4618760256179416344) (fmul .f64 (fsub .f64 4602678819172646912 y1) 4618760256179416344)), (4607182418800017408, (8, ()))))), ())) fun y6 =>
      let e7 := (fmul .f64 y6.1.2.1 y6.1.2.2.1)
      bif y6.1.1 then
        some (fneg .f64 e7)
      else
        some e7
    else
      Option.bind (iter L_i_sine_1 fuel (((fge .f64 y1 4602678819172646912), ((fmul .f64 y1 4618760256179416344), ((fmul .f64 (fmul .f64 y1 4618760256179416344) (fmul .f64 y1 4618760256179416344)), (4607182418800017408, (8, ()))))), ())) fun y8 =>
      let e9 := (fmul .f64 y8.1.2.1 y8.1.2.2.1)
      bif y8.1.1 then
        some (fneg .f64 e9)
      else
        some e9


def g_i_wideSine (turns : Nat) : Option (Nat) :=
  bif (!(feq .f64 (fsub .f64 turns turns) 0)) then
    some t_math_NaN
  else
    bif (fge .f64 (t_mathabs turns) 4841369599423283200) then
      some 0
    else
      Option.bind (g_i_sine turns) fun y1 =>
      some y1


def g_i_SineTurns (xx : Nat) : Option (Nat) :=
  Option.bind (g_i_wideSine (fwide xx)) fun y1 =>
  Option.bind (fconv .f64 .f32 y1) fun y2 =>
  some y2


def g_i_StepSwing (s : dTurn) : Option (dTurn) :=
  Option.bind (g_i_SineTurns s.1) fun y1 =>
  Option.bind (g_i_FlushNumber (fmul .f32 (fsub .f32 s.2.1 (fmul .f32 s.2.2.1 y1)) s.2.2.2.1)) fun y2 =>
  Option.bind (g_i_FlushNumber (fadd .f32 s.1 y2)) fun y3 =>
  some (y3, (y2, s.2.2))


def g_w_toSwing (a : dTurn) : Option (dTurn) :=
  some a

def t_w_toSwing (a : dTurn) : dTurn :=
  a

theorem q_w_toSwing (a : dTurn) : g_w_toSwing a = some (t_w_toSwing a) := rfl


def L_s_l01SineWide_1 (rec' : (Bool × Nat × Nat × Nat × Int × Unit) × (Unit) → Option ((Bool × Nat × Nat × Unit) × (Unit))) (x : (Bool × Nat × Nat × Nat × Int × Unit) × (Unit)) : Option ((Bool × Nat × Nat × Unit) × (Unit)) := match x with
  | ((below, z, u, p, k, ()), (())) =>
    bif (ile 1 k) then
      rec' ((below, (z, (u, ((fsub .f64 4607182418800017408 (fdiv .f64 (fmul .f64 u p) (fofInt .f64 (imul .i64 (imul .i64 2 k) (iadd .i64 (imul .i64 2 k) 1))))), ((isub .i64 k 1), ()))))), ())
    else
      some ((below, (z, (p, ()))), ())

def g_s_l01SineWide (y : Nat) : Option (Nat) :=
  bif (!(feq .f64 (fsub .f64 y y) 0)) then
    some t_math_NaN
  else
    bif (fge .f64 y 4841369599423283200) then
      some 0
    else
      bif (fle .f64 y 14064741636278059008) then
        some 0
      else
        Option.bind (floatToIntVal .f64 y .i64) fun n1 =>
        let e2 := (fmul .f64 (fsub .f64 (fadd .f64 (fsub .f64 y (fofInt .f64 n1)) 4607182418800017408) 4602678819172646912) 4618760256179416344)
        let e3 := (fmul .f64 (fsub .f64 4602678819172646912 (fadd .f64 (fsub .f64 y (fofInt .f64 n1)) 4607182418800017408)) 4618760256179416344)
        let e4 := (fmul .f64 (fsub .f64 4602678819172646912 (fsub .f64 (fsub .f64 y (fofInt .f64 n1)) 4602678819172646912)) 4618760256179416344)
        let e5 := (fmul .f64 (fsub .f64 4602678819172646912 (fsub .f64 (fadd .f64 (fsub .f64 y (fofInt .f64 n1)) 4607182418800017408) 4602678819172646912)) 4618760256179416344)
        bif (flt .f64 (fsub .f64 y (fofInt .f64 n1)) 0) then
          bif (fge .f64 (fadd .f64 (fsub .f64 y (fofInt .f64 n1)) 4607182418800017408) 4602678819172646912) then
            bif (fgt .f64 (fsub .f64 (fadd .f64 (fsub .f64 y (fofInt .f64 n1)) 4607182418800017408) 4602678819172646912) 4598175219545276416) then
              Option.bind (iter L_s_l01SineWide_1 fuel (((fge .f64 (fadd .f64 (fsub .f64 y (fofInt .f64 n1)) 4607182418800017408) 4602678819172646912), (e5, ((fmul .f64 e5 e5), (4607182418800017408, (8, ()))))), ())) fun y6 =>
              let e7 := (fmul .f64 y6.1.2.1 y6.1.2.2.1)
              bif y6.1.1 then
                some (fneg .f64 e7)
              else
                some e7
            else
              Option.bind (iter L_s_l01SineWide_1 fuel (((fge .f64 (fadd .f64 (fsub .f64 y (fofInt .f64 n1)) 4607182418800017408) 4602678819172646912), (e2, ((fmul .f64 e2 e2), (4607182418800017408, (8, ()))))), ())) fun y8 =>
              let e9 := (fmul .f64 y8.1.2.1 y8.1.2.2.1)
              bif y8.1.1 then
                some (fneg .f64 e9)
              else
                some e9
          else
            bif (fgt .f64 (fadd .f64 (fsub .f64 y (fofInt .f64 n1)) 4607182418800017408) 4598175219545276416) then
              Option.bind (iter L_s_l01SineWide_1 fuel (((fge .f64 (fadd .f64 (fsub .f64 y (fofInt .f64 n1)) 4607182418800017408) 4602678819172646912), (e3, ((fmul .f64 e3 e3), (4607182418800017408, (8, ()))))), ())) fun y10 =>
              let e11 := (fmul .f64 y10.1.2.1 y10.1.2.2.1)
              bif y10.1.1 then
                some (fneg .f64 e11)
              else
                some e11
            else
              Option.bind (iter L_s_l01SineWide_1 fuel (((fge .f64 (fadd .f64 (fsub .f64 y (fofInt .f64 n1)) 4607182418800017408) 4602678819172646912), ((fmul .f64 (fadd .f64 (fsub .f64 y (fofInt .f64 n1)) 4607182418800017408) 4618760256179416344), ((fmul .f64 (fmul .f64 (fadd .f64 (fsub .f64 y (fofInt .f64 n1)) 4607182418800017408) 4618760256179416344) (fmul .f64 (fadd .f64 (fsub .f64 y (fofInt .f64 n1)) 4607182418800017408) 4618760256179416344)), (4607182418800017408, (8, ()))))), ())) fun y12 =>
              let e13 := (fmul .f64 y12.1.2.1 y12.1.2.2.1)
              bif y12.1.1 then
                some (fneg .f64 e13)
              else
                some e13
        else
          bif (fge .f64 (fsub .f64 y (fofInt .f64 n1)) 4602678819172646912) then
            bif (fgt .f64 (fsub .f64 (fsub .f64 y (fofInt .f64 n1)) 4602678819172646912) 4598175219545276416) then
              Option.bind (iter L_s_l01SineWide_1 fuel (((fge .f64 (fsub .f64 y (fofInt .f64 n1)) 4602678819172646912), (e4, ((fmul .f64 e4 e4), (4607182418800017408, (8, ()))))), ())) fun y14 =>
              let e15 := (fmul .f64 y14.1.2.1 y14.1.2.2.1)
              bif y14.1.1 then
                some (fneg .f64 e15)
              else
                some e15
            else
              Option.bind (iter L_s_l01SineWide_1 fuel (((fge .f64 (fsub .f64 y (fofInt .f64 n1)) 4602678819172646912), ((fmul .f64 (fsub .f64 (fsub .f64 y (fofInt .f64 n1)) 4602678819172646912) 4618760256179416344), ((fmul .f64 (fmul .f64 (fsub .f64 (fsub .f64 y (fofInt .f64 n1)) 4602678819172646912) 4618760256179416344) (fmul .f64 (fsub .f64 (fsub .f64 y (fofInt .f64 n1)) 4602678819172646912) 4618760256179416344)), (4607182418800017408, (8, ()))))), ())) fun y16 =>
              let e17 := (fmul .f64 y16.1.2.1 y16.1.2.2.1)
              bif y16.1.1 then
                some (fneg .f64 e17)
              else
                some e17
          else
            bif (fgt .f64 (fsub .f64 y (fofInt .f64 n1)) 4598175219545276416) then
              Option.bind (iter L_s_l01SineWide_1 fuel (((fge .f64 (fsub .f64 y (fofInt .f64 n1)) 4602678819172646912), ((fmul .f64 (fsub .f64 4602678819172646912 (fsub .f64 y (fofInt .f64 n1))) 4618760256179416344), ((fmul .f64 (fmul .f64 (fsub .f64 4602678819172646912 (fsub .f64 y (fofInt .f64 n1))) 4618760256179416344) (fmul .f64 (fsub .f64 4602678819172646912 (fsub .f64 y (fofInt .f64 n1))) 4618760256179416344)), (4607182418800017408, (8, ()))))), ())) fun y18 =>
              let e19 := (fmul .f64 y18.1.2.1 y18.1.2.2.1)
              bif y18.1.1 then
                some (fneg .f64 e19)
              else
                some e19
            else
              Option.bind (iter L_s_l01SineWide_1 fuel (((fge .f64 (fsub .f64 y (fofInt .f64 n1)) 4602678819172646912), ((fmul .f64 (fsub .f64 y (fofInt .f64 n1)) 4618760256179416344), ((fmul .f64 (fmul .f64 (fsub .f64 y (fofInt .f64 n1)) 4618760256179416344) (fmul .f64 (fsub .f64 y (fofInt .f64 n1)) 4618760256179416344)), (4607182418800017408, (8, ()))))), ())) fun y20 =>
              let e21 := (fmul .f64 y20.1.2.1 y20.1.2.2.1)
              bif y20.1.1 then
                some (fneg .f64 e21)
              else
                some e21


def g_s_l01Sine (xx : Nat) : Option (Nat) :=
  Option.bind (g_s_l01SineWide (fwide xx)) fun y1 =>
  Option.bind (g_s_l01Narrow y1) fun y2 =>
  some y2


def g_s_l08Swing (s : dTurn) : Option (dTurn) :=
  Option.bind (g_s_l01Sine s.1) fun y1 =>
  Option.bind (g_s_l01Flush (fmul .f32 (fsub .f32 s.2.1 (fmul .f32 s.2.2.1 y1)) s.2.2.2.1)) fun y2 =>
  Option.bind (g_s_l01Flush (fadd .f32 s.1 y2)) fun y3 =>
  some (y3, (y2, s.2.2))


def g_s_StepSwing (s : dTurn) : Option (dTurn) :=
  Option.bind (g_s_l08Swing s) fun y1 =>
  some y1


def g_w_eqSwing (a : dTurn) (b : dTurn) : Option (Bool) :=
  bif (!(t_w_sameFloat (fwide a.1) (fwide b.1))) then
    some false
  else
    bif (!(t_w_sameFloat (fwide a.2.1) (fwide b.2.1))) then
      some false
    else
      bif (!(t_w_sameFloat (fwide a.2.2.1) (fwide b.2.2.1))) then
        some false
      else
        bif (!(t_w_sameFloat (fwide a.2.2.2.1) (fwide b.2.2.2.1))) then
          some false
        else
          some true

def t_w_eqSwing (a : dTurn) (b : dTurn) : Bool :=
  bif (!(t_w_sameFloat (fwide a.1) (fwide b.1))) then
    false
  else
    bif (!(t_w_sameFloat (fwide a.2.1) (fwide b.2.1))) then
      false
    else
      bif (!(t_w_sameFloat (fwide a.2.2.1) (fwide b.2.2.1))) then
        false
      else
        bif (!(t_w_sameFloat (fwide a.2.2.2.1) (fwide b.2.2.2.1))) then
          false
        else
          true

theorem q_w_eqSwing (a : dTurn) (b : dTurn) : g_w_eqSwing a b = some (t_w_eqSwing a b) := by
  unfold g_w_eqSwing t_w_eqSwing; simp only [bif_some_some]


def g_w_FnExactStepSwing (aS : dTurn) : Option (Bool) :=
  Option.bind (g_s_StepSwing (t_w_toSwing aS)) fun y1 =>
  Option.bind (g_i_StepSwing (t_w_toSwing aS)) fun y2 =>
  bif (!(t_w_eqSwing y2 y1)) then
    some false
  else
    some true


end
end Go.Fw
