/- What the functions compute, as plain Lean functions. No condition. -/
import Derived.Test.YtalhiopcegnobaaAPure
set_option linter.unusedVariables false
namespace Go.Fw
noncomputable section
def g_i_SameSpring (a : dTurn) (b : dTurn) : Option (Bool) :=
  Option.bind (g_i_SameNumber a.1 b.1) fun y1 =>
  bif y1 then
    Option.bind (g_i_SameNumber a.2.1 b.2.1) fun y2 =>
    bif y2 then
      Option.bind (g_i_SameNumber a.2.2.1 b.2.2.1) fun y3 =>
      bif y3 then
        Option.bind (g_i_SameNumber a.2.2.2.1 b.2.2.2.1) fun y4 =>
        some y4
      else
        some false
    else
      some false
  else
    some false


def g_i_IsSubnormal (xx : Nat) : Option (Bool) :=
  bif (!(feq .f32 xx 0)) then
    some (flt .f64 (t_mathabs (fwide xx)) 4039728865751334912)
  else
    some false

def t_i_IsSubnormal (xx : Nat) : Bool :=
  bif (!(feq .f32 xx 0)) then
    (flt .f64 (t_mathabs (fwide xx)) 4039728865751334912)
  else
    false

theorem q_i_IsSubnormal (xx : Nat) : g_i_IsSubnormal xx = some (t_i_IsSubnormal xx) := by
  unfold g_i_IsSubnormal t_i_IsSubnormal; simp only [bif_some_some]


def g_math_Copysign (f : Nat) (sign : Nat) : Option (Nat) :=
  Option.bind (g_float64bits f) fun y1 =>
  Option.bind (g_float64bits sign) fun y2 =>
  some (t_float64frombits (ior .u64 (iandNot .u64 y1 9223372036854775808) (iand .u64 y2 9223372036854775808)))


def g_i_FlushNumber (xx : Nat) : Option (Nat) :=
  bif (t_i_IsSubnormal xx) then
    Option.bind (g_math_Copysign 0 (fwide xx)) fun y1 =>
    Option.bind (fconv .f64 .f32 y1) fun y2 =>
    some y2
  else
    some xx


def g_i_drawn (place : Nat) (speed : Nat) (stiff : Nat) (damp : Nat) (goal : Nat) : Option ((Nat × (Nat × Unit))) :=
  Option.bind (g_i_FlushNumber (fmul .f32 (fadd .f32 speed (fmul .f32 stiff (fsub .f32 goal place))) damp)) fun y1 =>
  Option.bind (g_i_FlushNumber (fadd .f32 place y1)) fun y2 =>
  some (y2, (y1, ()))


def g_i_StepSpring (s : dTurn) (goal : Nat) : Option (dTurn) :=
  Option.bind (g_i_drawn s.1 s.2.1 s.2.2.1 s.2.2.2.1 goal) fun y1 =>
  some (y1.1, (y1.2.1, s.2.2))


def g_w_r8Long (code : (List Int)) (more : (List Int)) : Option (Bool) :=
  bif (ilt 48 (((List.length code) : Nat) : Int)) then
    some true
  else
    some (ilt 48 (((List.length more) : Nat) : Int))

def t_w_r8Long (code : (List Int)) (more : (List Int)) : Bool :=
  bif (ilt 48 (((List.length code) : Nat) : Int)) then
    true
  else
    (ilt 48 (((List.length more) : Nat) : Int))

theorem q_w_r8Long (code : (List Int)) (more : (List Int)) : g_w_r8Long code more = some (t_w_r8Long code more) := by
  unfold g_w_r8Long t_w_r8Long; simp only [bif_some_some]


def g_s_l00From (code : (List Int)) : Option (dSrc × ((List Int) × Unit)) :=
  some ((code, (0, (0, ()))), (code, ()))

def t_s_l00From (code : (List Int)) : dSrc × ((List Int) × Unit) :=
  ((code, (0, (0, ()))), (code, ()))

theorem q_s_l00From (code : (List Int)) : g_s_l00From code = some (t_s_l00From code) := rfl


def g_s_l00Src_next (s : dSrc) : Option (Int × (dSrc × Unit)) :=
  let e1 := (ile (iadd .i64 s.2.1 1) (((List.length s.1) : Nat) : Int))
  let e2 := (iadd .u64 (iadd .u64 (imul .u64 s.2.2.1 6364136223846793005) 0) 1442695040888963407)
  let e3 := ((s.1, ((iadd .i64 s.2.1 1), (e2, ()))), ())
  bif (ilt s.2.1 (((List.length s.1) : Nat) : Int)) then
    Option.bind (ix s.2.1 (List.length s.1)) fun j4 =>
    let e5 := (iadd .u64 (iadd .u64 (imul .u64 s.2.2.1 6364136223846793005) (iconv .u64 (iconv .i64 (List.getD s.1 j4 (0 : Int))))) 1442695040888963407)
    let e6 := ((s.1, ((iadd .i64 s.2.1 1), (e5, ()))), ())
    bif e1 then
      some ((iconv .i64 (List.getD s.1 j4 (0 : Int))), e6)
    else
      some ((iconv .i64 (iand .u64 (ishr .u64 e5 40) 255)), e6)
  else
    bif e1 then
      some (0, e3)
    else
      some ((iconv .i64 (iand .u64 (ishr .u64 e2 40) 255)), e3)


def g_s_l00Src_pick (s : dSrc) (n : Int) : Option (Int × (dSrc × Int × Unit)) :=
  bif (ile n 1) then
    some (0, (s, (n, ())))
  else
    Option.bind (g_s_l00Src_next s) fun y1 =>
    bif (ilt 200 n) then
      Option.bind (g_s_l00Src_next y1.2.1) fun y2 =>
      bif (nz n) then
        some ((irem .i64 (iadd .i64 (imul .i64 y1.1 256) y2.1) n), (y2.2.1, (n, ())))
      else
        none
    else
      bif (nz n) then
        some ((irem .i64 y1.1 n), (y1.2.1, (n, ())))
      else
        none


def g_s_l01DrawSmall (s : dSrc) : Option (Nat × (dSrc × Unit)) :=
  Option.bind (g_s_l00Src_pick s 33) fun y1 =>
  some ((fdiv .f32 (fofInt .f32 (isub .i64 y1.1 16)) 1082130432), (y1.2.1, ()))


def g_s_R8Small (code : (List Int)) : Option (dVec) :=
  Option.bind (g_s_l01DrawSmall (t_s_l00From code).1) fun y1 =>
  Option.bind (g_s_l01DrawSmall y1.2.1) fun y2 =>
  Option.bind (g_s_l01DrawSmall y2.2.1) fun y3 =>
  some (y1.1, (y2.1, (y3.1, ())))


def g_w_r8At (code : (List Int)) (k : Int) (n : Int) : Option (Int) :=
  bif (ile n 1) then
    some 0
  else
    bif (ile (((List.length code) : Nat) : Int) k) then
      some 0
    else
      Option.bind (ix k (List.length code)) fun j1 =>
      bif (nz n) then
        some (irem .i64 (iconv .i64 (List.getD code j1 (0 : Int))) n)
      else
        none


def L_i_RestOfSpring_1 (rec' : (Nat × Int × Int × Bool × Int × Unit) × ((dTurn × Unit) × Unit) → Option (Bool × ((Int × Bool × Unit) × (Unit)))) (x : (Nat × Int × Int × Bool × Int × Unit) × ((dTurn × Unit) × Unit)) : Option (Bool × ((Int × Bool × Unit) × (Unit))) := match x with
  | ((goal, most, t6, t7, n, ()), ((b0, ()), ())) =>
    bif (ile n most) then
      Option.bind (g_i_StepSpring b0 goal) fun y1 =>
      Option.bind (g_i_SameSpring y1 b0) fun y2 =>
      bif y2 then
        some (true, ((n, (true, ())), ()))
      else
        rec' ((goal, (most, (t6, (t7, ((iadd .i64 n 1), ()))))), ((y1, ()), ()))
    else
      some (false, ((t6, (t7, ())), ()))

def g_i_RestOfSpring (s : dTurn) (goal : Nat) (most : Int) : Option ((Int × (Bool × Unit))) :=
  bif (ilt most 0) then
    some (0, (false, ()))
  else
    bif (ilt 10000 most) then
      some (0, (false, ()))
    else
      Option.bind (iter L_i_RestOfSpring_1 fuel ((goal, (most, (0, (false, (0, ()))))), ((s, ()), ()))) fun y1 =>
      bif y1.1 then
        some (y1.2.1.1, (y1.2.1.2.1, ()))
      else
        some (0, (false, ()))


def g_w_r8Gap (a : Nat) (b : Nat) : Option (Nat) :=
  some (fmax .f64 (fsub .f64 a b) (fsub .f64 b a))

def t_w_r8Gap (a : Nat) (b : Nat) : Nat :=
  (fmax .f64 (fsub .f64 a b) (fsub .f64 b a))

theorem q_w_r8Gap (a : Nat) (b : Nat) : g_w_r8Gap a b = some (t_w_r8Gap a b) := rfl


def L_w_FnSpringRests_2 (rec' : (Nat × Int × Unit) × ((dTurn × Unit) × Unit) → Option ((Nat × Unit) × ((dTurn × Unit) × Unit))) (x : (Nat × Int × Unit) × ((dTurn × Unit) × Unit)) : Option ((Nat × Unit) × ((dTurn × Unit) × Unit)) := match x with
  | ((low, k, ()), ((b2, ()), ())) =>
    bif (ilt k 100) then
      rec' (((fdiv .f64 low 4611686018427387904), ((iadd .i64 k 1), ())), ((b2, ()), ()))
    else
      some ((low, ()), ((b2, ()), ()))

def L_w_FnSpringRests_1 (rec' : (Bool × Int × Int × Unit) × ((dTurn × Unit) × Unit) → Option (Bool × ((Bool × Unit) × ((dTurn × Unit) × Unit)))) (x : (Bool × Int × Int × Unit) × ((dTurn × Unit) × Unit)) : Option (Bool × ((Bool × Unit) × ((dTurn × Unit) × Unit))) := match x with
  | ((t4, n, k, ()), ((b2, ()), ())) =>
    bif (ilt k n) then
      Option.bind (g_i_StepSpring b2 0) fun y1 =>
      Option.bind (g_i_SameSpring y1 b2) fun y2 =>
      bif y2 then
        some (true, ((false, ()), ((b2, ()), ())))
      else
        rec' ((t4, (n, ((iadd .i64 k 1), ()))), ((y1, ()), ()))
    else
      some (false, ((t4, ()), ((b2, ()), ())))

def g_w_FnSpringRests (code : (List Int)) (more : (List Int)) : Option (Bool) :=
  bif (t_w_r8Long code more) then
    some true
  else
    Option.bind (g_s_R8Small more) fun y1 =>
    Option.bind (g_w_r8At code 0 3) fun y2 =>
    Option.bind (g_w_r8At code 1 3) fun y3 =>
    let e4 := (y1.1, (y1.2.1, ((fdiv .f32 (fofInt .f32 (iadd .i64 1 y2)) 1082130432), ((fdiv .f32 (fofInt .f32 (iadd .i64 1 y3)) 1082130432), ()))))
    Option.bind (g_i_RestOfSpring e4 0 10000) fun y5 =>
    bif (!y5.2.1) then
      some false
    else
      bif (ilt y5.1 0) then
        some false
      else
        bif (ilt 10000 y5.1) then
          some false
        else
          Option.bind (iter L_w_FnSpringRests_1 fuel ((false, (y5.1, (0, ()))), ((e4, ()), ()))) fun y6 =>
          bif y6.1 then
            some y6.2.1.1
          else
            Option.bind (iter L_w_FnSpringRests_2 fuel ((4607182418800017408, (0, ())), ((y6.2.2.1.1, ()), ()))) fun y7 =>
            Option.bind (g_i_StepSpring y7.2.1.1 0) fun y8 =>
            Option.bind (g_i_SameSpring y8 y7.2.1.1) fun y9 =>
            bif y9 then
              bif (flt .f64 (t_w_r8Gap (fwide y7.2.1.1.1) 0) y7.1.1) then
                some (feq .f32 y7.2.1.1.2.1 0)
              else
                some false
            else
              some false


def t_math_NaN  : Nat :=
  (t_float64frombits 9221120237041090561)

def g_math_Trunc (xx : Nat) : Option (Nat) :=
  Option.bind (g_archTrunc xx) fun y1 =>
  some y1


def g_i_placesOf (turns : Nat) : Option (Nat) :=
  Option.bind (g_math_Trunc turns) fun y1 =>
  bif (!(feq .f64 y1 0)) then
    bif (flt .f64 (fsub .f64 turns y1) 0) then
      some (fadd .f64 (fsub .f64 turns y1) 4607182418800017408)
    else
      some (fsub .f64 turns y1)
  else
    bif (flt .f64 turns 0) then
      some (fadd .f64 turns 4607182418800017408)
    else
      some turns


def L_i_sine_1 (rec' : (Bool × Nat × Nat × Nat × Int × Unit) × (Unit) → Option ((Bool × Nat × Nat × Unit) × (Unit))) (x : (Bool × Nat × Nat × Nat × Int × Unit) × (Unit)) : Option ((Bool × Nat × Nat × Unit) × (Unit)) := match x with
  | ((turned, z, u, p, k, ()), (())) =>
    bif (ile 1 k) then
      rec' ((turned, (z, (u, ((fsub .f64 4607182418800017408 (fdiv .f64 (fmul .f64 u p) (fofInt .f64 (imul .i64 (imul .i64 2 k) (iadd .i64 (imul .i64 2 k) 1))))), ((isub .i64 k 1), ()))))), ())
    else
      some ((turned, (z, (p, ()))), ())

def g_i_sine (turns : Nat) : Option (Nat) :=
  Option.bind (g_i_placesOf turns) fun y1 =>
  bif (fge .f64 y1 4602678819172646912) then
    bif (fgt .f64 (fsub .f64 y1 4602678819172646912) 4598175219545276416) then
      Option.bind (iter L_i_sine_1 fuel (((fge .f64 y1 4602678819172646912), ((fmul .f64 (fsub .f64 4602678819172646912 (fsub .f64 y1 4602678819172646912)) 4618760256179416344), ((fmul .f64 (fmul .f64 (fsub .f64 4602678819172646912 (fsub .f64 y1 4602678819172646912)) 4618760256179416344) (fmul .f64 (fsub .f64 4602678819172646912 (fsub .f64 y1 4602678819172646912)) 4618760256179416344)), (4607182418800017408, (8, ()))))), ())) fun y2 =>
      let e3 := (fmul .f64 y2.1.2.1 y2.1.2.2.1)
      bif y2.1.1 then
        some (fneg .f64 e3)
      else
        some e3
    else
      Option.bind (iter L_i_sine_1 fuel (((fge .f64 y1 4602678819172646912), ((fmul .f64 (fsub .f64 y1 4602678819172646912) 4618760256179416344), ((fmul .f64 (fmul .f64 (fsub .f64 y1 4602678819172646912) 4618760256179416344) (fmul .f64 (fsub .f64 y1 4602678819172646912) 4618760256179416344)), (4607182418800017408, (8, ()))))), ())) fun y4 =>
      let e5 := (fmul .f64 y4.1.2.1 y4.1.2.2.1)
      bif y4.1.1 then
        some (fneg .f64 e5)
      else
        some e5
  else
    bif (fgt .f64 y1 4598175219545276416) then
      Option.bind (iter L_i_sine_1 fuel (((fge .f64 y1 4602678819172646912), ((fmul .f64 (fsub .f64 4602678819172646912 y1) 4618760256179416344), ((fmul .f64 (fmul .f64 (fsub .f64 4602678819172646912 y1) 4618760256179416344) (fmul .f64 (fsub .f64 4602678819172646912 y1) 4618760256179416344)), (4607182418800017408, (8, ()))))), ())) fun y6 =>
      let e7 := (fmul .f64 y6.1.2.1 y6.1.2.2.1)
      bif y6.1.1 then
        some (fneg .f64 e7)
      else
        some e7
    else
      Option.bind (iter L_i_sine_1 fuel (((fge .f64 y1 4602678819172646912), ((fmul .f64 y1 4618760256179416344), ((fmul .f64 (fmul .f64 y1 4618760256179416344) (fmul .f64 y1 4618760256179416344)), (4607182418800017408, (8, ()))))), ())) fun y8 =>
      let e9 := (fmul .f64 y8.1.2.1 y8.1.2.2.1)
      bif y8.1.1 then
        some (fneg .f64 e9)
      else
        some e9


def g_i_wideSine (turns : Nat) : Option (Nat) :=
  bif (!(feq .f64 (fsub .f64 turns turns) 0)) then
    some t_math_NaN
  else
    bif (fge .f64 (t_mathabs turns) 4841369599423283200) then
      some 0
    else
      Option.bind (g_i_sine turns) fun y1 =>
      some y1


def g_i_SineTurns (xx : Nat) : Option (Nat) :=
  Option.bind (g_i_wideSine (fwide xx)) fun y1 =>
  Option.bind (fconv .f64 .f32 y1) fun y2 =>
  some y2


def g_i_StepSwing (s : dTurn) : Option (dTurn) :=
  Option.bind (g_i_SineTurns s.1) fun y1 =>
  Option.bind (g_i_FlushNumber (fmul .f32 (fsub .f32 s.2.1 (fmul .f32 s.2.2.1 y1)) s.2.2.2.1)) fun y2 =>
  Option.bind (g_i_FlushNumber (fadd .f32 s.1 y2)) fun y3 =>
  some (y3, (y2, s.2.2))


def L_s_l01SineWide_1 (rec' : (Bool × Nat × Nat × Nat × Int × Unit) × (Unit) → Option ((Bool × Nat × Nat × Unit) × (Unit))) (x : (Bool × Nat × Nat × Nat × Int × Unit) × (Unit)) : Option ((Bool × Nat × Nat × Unit) × (Unit)) := match x with
  | ((below, z, u, p, k, ()), (())) =>
    bif (ile 1 k) then
      rec' ((below, (z, (u, ((fsub .f64 4607182418800017408 (fdiv .f64 (fmul .f64 u p) (fofInt .f64 (imul .i64 (imul .i64 2 k) (iadd .i64 (imul .i64 2 k) 1))))), ((isub .i64 k 1), ()))))), ())
    else
      some ((below, (z, (p, ()))), ())

def g_s_l01SineWide (y : Nat) : Option (Nat) :=
  bif (!(feq .f64 (fsub .f64 y y) 0)) then
    some t_math_NaN
  else
    bif (fge .f64 y 4841369599423283200) then
      some 0
    else
      bif (fle .f64 y 14064741636278059008) then
        some 0
      else
        Option.bind (floatToIntVal .f64 y .i64) fun n1 =>
        let e2 := (fmul .f64 (fsub .f64 (fadd .f64 (fsub .f64 y (fofInt .f64 n1)) 4607182418800017408) 4602678819172646912) 4618760256179416344)
        let e3 := (fmul .f64 (fsub .f64 4602678819172646912 (fadd .f64 (fsub .f64 y (fofInt .f64 n1)) 4607182418800017408)) 4618760256179416344)
        let e4 := (fmul .f64 (fsub .f64 4602678819172646912 (fsub .f64 (fsub .f64 y (fofInt .f64 n1)) 4602678819172646912)) 4618760256179416344)
        let e5 := (fmul .f64 (fsub .f64 4602678819172646912 (fsub .f64 (fadd .f64 (fsub .f64 y (fofInt .f64 n1)) 4607182418800017408) 4602678819172646912)) 4618760256179416344)
        bif (flt .f64 (fsub .f64 y (fofInt .f64 n1)) 0) then
          bif (fge .f64 (fadd .f64 (fsub .f64 y (fofInt .f64 n1)) 4607182418800017408) 4602678819172646912) then
            bif (fgt .f64 (fsub .f64 (fadd .f64 (fsub .f64 y (fofInt .f64 n1)) 4607182418800017408) 4602678819172646912) 4598175219545276416) then
              Option.bind (iter L_s_l01SineWide_1 fuel (((fge .f64 (fadd .f64 (fsub .f64 y (fofInt .f64 n1)) 4607182418800017408) 4602678819172646912), (e5, ((fmul .f64 e5 e5), (4607182418800017408, (8, ()))))), ())) fun y6 =>
              let e7 := (fmul .f64 y6.1.2.1 y6.1.2.2.1)
              bif y6.1.1 then
                some (fneg .f64 e7)
              else
                some e7
            else
              Option.bind (iter L_s_l01SineWide_1 fuel (((fge .f64 (fadd .f64 (fsub .f64 y (fofInt .f64 n1)) 4607182418800017408) 4602678819172646912), (e2, ((fmul .f64 e2 e2), (4607182418800017408, (8, ()))))), ())) fun y8 =>
              let e9 := (fmul .f64 y8.1.2.1 y8.1.2.2.1)
              bif y8.1.1 then
                some (fneg .f64 e9)
              else
                some e9
          else
            bif (fgt .f64 (fadd .f64 (fsub .f64 y (fofInt .f64 n1)) 4607182418800017408) 4598175219545276416) then
              Option.bind (iter L_s_l01SineWide_1 fuel (((fge .f64 (fadd .f64 (fsub .f64 y (fofInt .f64 n1)) 4607182418800017408) 4602678819172646912), (e3, ((fmul .f64 e3 e3), (4607182418800017408, (8, ()))))), ())) fun y10 =>
              let e11 := (fmul .f64 y10.1.2.1 y10.1.2.2.1)
              bif y10.1.1 then
                some (fneg .f64 e11)
              else
                some e11
            else
              Option.bind (iter L_s_l01SineWide_1 fuel (((fge .f64 (fadd .f64 (fsub .f64 y (fofInt .f64 n1)) 4607182418800017408) 4602678819172646912), ((fmul .f64 (fadd .f64 (fsub .f64 y (fofInt .f64 n1)) 4607182418800017408) 4618760256179416344), ((fmul .f64 (fmul .f64 (fadd .f64 (fsub .f64 y (fofInt .f64 n1)) 4607182418800017408) 4618760256179416344) (fmul .f64 (fadd .f64 (fsub .f64 y (fofInt .f64 n1)) 4607182418800017408) 4618760256179416344)), (4607182418800017408, (8, ()))))), ())) fun y12 =>
              let e13 := (fmul .f64 y12.1.2.1 y12.1.2.2.1)
              bif y12.1.1 then
                some (fneg .f64 e13)
              else
                some e13
        else
          bif (fge .f64 (fsub .f64 y (fofInt .f64 n1)) 4602678819172646912) then
            bif (fgt .f64 (fsub .f64 (fsub .f64 y (fofInt .f64 n1)) 4602678819172646912) 4598175219545276416) then
              Option.bind (iter L_s_l01SineWide_1 fuel (((fge .f64 (fsub .f64 y (fofInt .f64 n1)) 4602678819172646912), (e4, ((fmul .f64 e4 e4), (4607182418800017408, (8, ()))))), ())) fun y14 =>
              let e15 := (fmul .f64 y14.1.2.1 y14.1.2.2.1)
              bif y14.1.1 then
                some (fneg .f64 e15)
              else
                some e15
            else
              Option.bind (iter L_s_l01SineWide_1 fuel (((fge .f64 (fsub .f64 y (fofInt .f64 n1)) 4602678819172646912), ((fmul .f64 (fsub .f64 (fsub .f64 y (fofInt .f64 n1)) 4602678819172646912) 4618760256179416344), ((fmul .f64 (fmul .f64 (fsub .f64 (fsub .f64 y (fofInt .f64 n1)) 4602678819172646912) 4618760256179416344) (fmul .f64 (fsub .f64 (fsub .f64 y (fofInt .f64 n1)) 4602678819172646912) 4618760256179416344)), (4607182418800017408, (8, ()))))), ())) fun y16 =>
              let e17 := (fmul .f64 y16.1.2.1 y16.1.2.2.1)
              bif y16.1.1 then
                some (fneg .f64 e17)
              else
                some e17
          else
            bif (fgt .f64 (fsub .f64 y (fofInt .f64 n1)) 4598175219545276416) then
              Option.bind (iter L_s_l01SineWide_1 fuel (((fge .f64 (fsub .f64 y (fofInt .f64 n1)) 4602678819172646912), ((fmul .f64 (fsub .f64 4602678819172646912 (fsub .f64 y (fofInt .f64 n1))) 4618760256179416344), ((fmul .f64 (fmul .f64 (fsub .f64 4602678819172646912 (fsub .f64 y (fofInt .f64 n1))) 4618760256179416344) (fmul .f64 (fsub .f64 4602678819172646912 (fsub .f64 y (fofInt .f64 n1))) 4618760256179416344)), (4607182418800017408, (8, ()))))), ())) fun y18 =>
              let e19 := (fmul .f64 y18.1.2.1 y18.1.2.2.1)
              bif y18.1.1 then
                some (fneg .f64 e19)
              else
                some e19
            else
              Option.bind (iter L_s_l01SineWide_1 fuel (((fge .f64 (fsub .f64 y (fofInt .f64 n1)) 4602678819172646912), ((fmul .f64 (fsub .f64 y (fofInt .f64 n1)) 4618760256179416344), ((fmul .f64 (fmul .f64 (fsub .f64 y (fofInt .f64 n1)) 4618760256179416344) (fmul .f64 (fsub .f64 y (fofInt .f64 n1)) 4618760256179416344)), (4607182418800017408, (8, ()))))), ())) fun y20 =>
              let e21 := (fmul .f64 y20.1.2.1 y20.1.2.2.1)
              bif y20.1.1 then
                some (fneg .f64 e21)
              else
                some e21


def g_s_l01Sine (xx : Nat) : Option (Nat) :=
  Option.bind (g_s_l01SineWide (fwide xx)) fun y1 =>
  Option.bind (g_s_l01Narrow y1) fun y2 =>
  some y2


end
end Go.Fw
