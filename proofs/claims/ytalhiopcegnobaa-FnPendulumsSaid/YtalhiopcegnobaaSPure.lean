/- What the functions compute, as plain Lean functions. No condition. -/
import Derived.Test.YtalhiopcegnobaaAPure
set_option linter.unusedVariables false
namespace Go.Fw
noncomputable section
def g_i_IsSubnormal (xx : Nat) : Option (Bool) :=
  bif (!(feq .f32 xx 0)) then
    some (flt .f64 (t_mathabs (fwide xx)) 4039728865751334912)
  else
    some false

def t_i_IsSubnormal (xx : Nat) : Bool :=
  bif (!(feq .f32 xx 0)) then
    (flt .f64 (t_mathabs (fwide xx)) 4039728865751334912)
  else
    false

theorem q_i_IsSubnormal (xx : Nat) : g_i_IsSubnormal xx = some (t_i_IsSubnormal xx) := by
  unfold g_i_IsSubnormal t_i_IsSubnormal; simp only [bif_some_some]


def g_math_Copysign (f : Nat) (sign : Nat) : Option (Nat) :=
  Option.bind (g_float64bits f) fun y1 =>
  Option.bind (g_float64bits sign) fun y2 =>
  some (t_float64frombits (ior .u64 (iandNot .u64 y1 9223372036854775808) (iand .u64 y2 9223372036854775808)))


def g_i_FlushNumber (xx : Nat) : Option (Nat) :=
  bif (t_i_IsSubnormal xx) then
    Option.bind (g_math_Copysign 0 (fwide xx)) fun y1 =>
    Option.bind (fconv .f64 .f32 y1) fun y2 =>
    some y2
  else
    some xx


def g_w_r8Long (code : (List Int)) (more : (List Int)) : Option (Bool) :=
  bif (ilt 48 (((List.length code) : Nat) : Int)) then
    some true
  else
    some (ilt 48 (((List.length more) : Nat) : Int))

def t_w_r8Long (code : (List Int)) (more : (List Int)) : Bool :=
  bif (ilt 48 (((List.length code) : Nat) : Int)) then
    true
  else
    (ilt 48 (((List.length more) : Nat) : Int))

theorem q_w_r8Long (code : (List Int)) (more : (List Int)) : g_w_r8Long code more = some (t_w_r8Long code more) := by
  unfold g_w_r8Long t_w_r8Long; simp only [bif_some_some]


def g_w_r8At (code : (List Int)) (k : Int) (n : Int) : Option (Int) :=
  bif (ile n 1) then
    some 0
  else
    bif (ile (((List.length code) : Nat) : Int) k) then
      some 0
    else
      Option.bind (ix k (List.length code)) fun j1 =>
      bif (nz n) then
        some (irem .i64 (iconv .i64 (List.getD code j1 (0 : Int))) n)
      else
        none


def g_w_r8Gap (a : Nat) (b : Nat) : Option (Nat) :=
  some (fmax .f64 (fsub .f64 a b) (fsub .f64 b a))

def t_w_r8Gap (a : Nat) (b : Nat) : Nat :=
  (fmax .f64 (fsub .f64 a b) (fsub .f64 b a))

theorem q_w_r8Gap (a : Nat) (b : Nat) : g_w_r8Gap a b = some (t_w_r8Gap a b) := rfl


def g_i_isMoves (steps : Int) : Option (Bool) :=
  bif (ile 0 steps) then
    some (ile steps 1000)
  else
    some false

def t_i_isMoves (steps : Int) : Bool :=
  bif (ile 0 steps) then
    (ile steps 1000)
  else
    false

theorem q_i_isMoves (steps : Int) : g_i_isMoves steps = some (t_i_isMoves steps) := by
  unfold g_i_isMoves t_i_isMoves; simp only [bif_some_some]


def g_math_NaN  : Option (Nat) :=
  some (t_float64frombits 9221120237041090561)

def t_math_NaN  : Nat :=
  (t_float64frombits 9221120237041090561)

theorem q_math_NaN  : g_math_NaN  = some (t_math_NaN ) := rfl


def g_math_Trunc (xx : Nat) : Option (Nat) :=
  Option.bind (g_archTrunc xx) fun y1 =>
  some y1


def g_i_placesOf (turns : Nat) : Option (Nat) :=
  Option.bind (g_math_Trunc turns) fun y1 =>
  bif (!(feq .f64 y1 0)) then
    bif (flt .f64 (fsub .f64 turns y1) 0) then
      some (fadd .f64 (fsub .f64 turns y1) 4607182418800017408)
    else
      some (fsub .f64 turns y1)
  else
    bif (flt .f64 turns 0) then
      some (fadd .f64 turns 4607182418800017408)
    else
      some turns


def L_i_sine_1 (rec' : (Bool × Nat × Nat × Nat × Int × Unit) × (Unit) → Option ((Bool × Nat × Nat × Unit) × (Unit))) (x : (Bool × Nat × Nat × Nat × Int × Unit) × (Unit)) : Option ((Bool × Nat × Nat × Unit) × (Unit)) := match x with
  | ((turned, z, u, p, k, ()), (())) =>
    bif (ile 1 k) then
      rec' ((turned, (z, (u, ((fsub .f64 4607182418800017408 (fdiv .f64 (fmul .f64 u p) (fofInt .f64 (imul .i64 (imul .i64 2 k) (iadd .i64 (imul .i64 2 k) 1))))), ((isub .i64 k 1), ()))))), ())
    else
      some ((turned, (z, (p, ()))), ())

def g_i_sine (turns : Nat) : Option (Nat) :=
  Option.bind (g_i_placesOf turns) fun y1 =>
  bif (fge .f64 y1 4602678819172646912) then
    bif (fgt .f64 (fsub .f64 y1 4602678819172646912) 4598175219545276416) then
      Option.bind (iter L_i_sine_1 fuel (((fge .f64 y1 4602678819172646912), ((fmul .f64 (fsub .f64 4602678819172646912 (fsub .f64 y1 4602678819172646912)) 4618760256179416344), ((fmul .f64 (fmul .f64 (fsub .f64 4602678819172646912 (fsub .f64 y1 4602678819172646912)) 4618760256179416344) (fmul .f64 (fsub .f64 4602678819172646912 (fsub .f64 y1 4602678819172646912)) 4618760256179416344)), (4607182418800017408, (8, ()))))), ())) fun y2 =>
      let e3 := (fmul .f64 y2.1.2.1 y2.1.2.2.1)
      bif y2.1.1 then
        some (fneg .f64 e3)
      else
        some e3
    else
      Option.bind (iter L_i_sine_1 fuel (((fge .f64 y1 4602678819172646912), ((fmul .f64 (fsub .f64 y1 4602678819172646912) 4618760256179416344), ((fmul .f64 (fmul .f64 (fsub .f64 y1 4602678819172646912) 4618760256179416344) (fmul .f64 (fsub .f64 y1 4602678819172646912) 4618760256179416344)), (4607182418800017408, (8, ()))))), ())) fun y4 =>
      let e5 := (fmul .f64 y4.1.2.1 y4.1.2.2.1)
      bif y4.1.1 then
        some (fneg .f64 e5)
      else
        some e5
  else
    bif (fgt .f64 y1 4598175219545276416) then
      Option.bind (iter L_i_sine_1 fuel (((fge .f64 y1 4602678819172646912), ((fmul .f64 (fsub .f64 4602678819172646912 y1) 4618760256179416344), ((fmul .f64 (fmul .f64 (fsub .f64 4602678819172646912 y1) 4618760256179416344) (fmul .f64 (fsub .f64 4602678819172646912 y1) 4618760256179416344)), (4607182418800017408, (8, ()))))), ())) fun y6 =>
      let e7 := (fmul .f64 y6.1.2.1 y6.1.2.2.1)
      bif y6.1.1 then
        some (fneg .f64 e7)
      else
        some e7
    else
      Option.bind (iter L_i_sine_1 fuel (((fge .f64 y1 4602678819172646912), ((fmul .f64 y1 4618760256179416344), ((fmul .f64 (fmul .f64 y1 4618760256179416344) (fmul .f64 y1 4618760256179416344)), (4607182418800017408, (8, ()))))), ())) fun y8 =>
      let e9 := (fmul .f64 y8.1.2.1 y8.1.2.2.1)
      bif y8.1.1 then
        some (fneg .f64 e9)
      else
        some e9


def g_i_wideSine (turns : Nat) : Option (Nat) :=
  bif (!(feq .f64 (fsub .f64 turns turns) 0)) then
    some t_math_NaN
  else
    bif (fge .f64 (t_mathabs turns) 4841369599423283200) then
      some 0
    else
      Option.bind (g_i_sine turns) fun y1 =>
      some y1


def g_i_SineTurns (xx : Nat) : Option (Nat) :=
  Option.bind (g_i_wideSine (fwide xx)) fun y1 =>
  Option.bind (fconv .f64 .f32 y1) fun y2 =>
  some y2


def g_i_StepSwing (s : dTurn) : Option (dTurn) :=
  Option.bind (g_i_SineTurns s.1) fun y1 =>
  Option.bind (g_i_FlushNumber (fmul .f32 (fsub .f32 s.2.1 (fmul .f32 s.2.2.1 y1)) s.2.2.2.1)) fun y2 =>
  Option.bind (g_i_FlushNumber (fadd .f32 s.1 y2)) fun y3 =>
  some (y3, (y2, s.2.2))


def L_i_RunSwing_1 (rec' : (Int × Int × Unit) × ((dTurn × Unit) × (dTurn × Unit) × (List Nat) × Unit) → Option ((Unit) × ((dTurn × Unit) × (dTurn × Unit) × (List Nat) × Unit))) (x : (Int × Int × Unit) × ((dTurn × Unit) × (dTurn × Unit) × (List Nat) × Unit)) : Option ((Unit) × ((dTurn × Unit) × (dTurn × Unit) × (List Nat) × Unit)) := match x with
  | ((t12, t13, ()), ((b0, ()), (b1, ()), r2, ())) =>
    bif (ilt t13 t12) then
      Option.bind (g_i_StepSwing b0) fun y1 =>
      bif (Nat.ble ((List.length r2) + 1) 4294967296) then
        rec' ((t12, ((iadd .i64 t13 1), ())), ((y1, ()), ((b1, ()), ((r2 ++ [y1.1]), ()))))
      else
        none
    else
      some ((), ((b0, ()), ((b1, ()), (r2, ()))))

def g_i_RunSwing (s : dTurn) (steps : Int) : Option (((List Nat) × (dTurn × (Bool × Unit)))) :=
  let e1 := (0, (0, (0, (0, ()))))
  bif (!(t_i_isMoves steps)) then
    some (([] : List Nat), (e1, (false, ())))
  else
    Option.bind (iter L_i_RunSwing_1 fuel ((steps, (0, ())), ((s, ()), ((e1, ()), (([] : List Nat), ()))))) fun y2 =>
    some (y2.2.2.2.1, (y2.2.1.1, (true, ())))


def L_w_r8Same_1 (rec' : ((List Nat) × (List Nat) × Bool × Int × Unit) × (Unit) → Option (Bool × ((Bool × Unit) × (Unit)))) (x : ((List Nat) × (List Nat) × Bool × Int × Unit) × (Unit)) : Option (Bool × ((Bool × Unit) × (Unit))) := match x with
  | ((a, b, t4, i, ()), (())) =>
    bif (ilt i (((List.length a) : Nat) : Int)) then
      Option.bind (ix i (List.length a)) fun j1 =>
      Option.bind (ix i (List.length b)) fun j2 =>
      Option.bind (g_i_SameNumber (List.getD a j1 (0 : Nat)) (List.getD b j2 (0 : Nat))) fun y3 =>
      bif (!y3) then
        some (true, ((false, ()), ()))
      else
        rec' ((a, (b, (t4, ((iadd .i64 i 1), ())))), ())
    else
      some (false, ((t4, ()), ()))

def g_w_r8Same (a : (List Nat)) (b : (List Nat)) : Option (Bool) :=
  bif (!(ieq (((List.length a) : Nat) : Int) (((List.length b) : Nat) : Int))) then
    some false
  else
    Option.bind (iter L_w_r8Same_1 fuel ((a, (b, (false, (0, ())))), ())) fun y1 =>
    bif y1.1 then
      some y1.2.1.1
    else
      some true


def L_w_FnPendulums_1 (rec' : (Bool × Int × Int × Unit) × ((dTurn × Unit) × (List Nat) × (List Nat) × Unit) → Option (Bool × ((Bool × Unit) × ((dTurn × Unit) × Unit)))) (x : (Bool × Int × Int × Unit) × ((dTurn × Unit) × (List Nat) × (List Nat) × Unit)) : Option (Bool × ((Bool × Unit) × ((dTurn × Unit) × Unit))) := match x with
  | ((t4, steps, i, ()), ((b0, ()), r2, r4, ())) =>
    bif (ilt i steps) then
      Option.bind (ix i (List.length r2)) fun j1 =>
      Option.bind (ix i (List.length r4)) fun j2 =>
      bif (fgt .f64 (t_w_r8Gap (fwide (List.getD r2 j1 (0 : Nat))) (fneg .f64 (fwide (List.getD r4 j2 (0 : Nat))))) 4547007122018943789) then
        some (true, ((false, ()), ((b0, ()), ())))
      else
        rec' ((t4, (steps, ((iadd .i64 i 1), ()))), ((b0, ()), (r2, (r4, ()))))
    else
      some (false, ((t4, ()), ((b0, ()), ())))

def g_w_FnPendulums (code : (List Int)) (more : (List Int)) : Option (Bool) :=
  bif (t_w_r8Long code more) then
    some true
  else
    Option.bind (g_w_r8At code 0 17) fun y1 =>
    Option.bind (g_w_r8At code 1 9) fun y2 =>
    Option.bind (g_w_r8At code 2 9) fun y3 =>
    Option.bind (g_w_r8At code 3 9) fun y4 =>
    let e5 := ((fdiv .f32 (fofInt .f32 y3) 1115684864), ((fdiv .f32 (fofInt .f32 (iadd .i64 8 y4)) 1098907648), ()))
    let e6 := ((fdiv .f32 (fofInt .f32 (isub .i64 y1 8)) 1115684864), ((fdiv .f32 (fofInt .f32 (isub .i64 y2 4)) 1132462080), e5))
    Option.bind (g_w_r8At more 0 9) fun y7 =>
    Option.bind (g_w_r8At more 1 (iadd .i64 y7 1)) fun y8 =>
    Option.bind (g_i_RunSwing e6 y7) fun y9 =>
    Option.bind (g_i_RunSwing ((fneg .f32 (fdiv .f32 (fofInt .f32 (isub .i64 y1 8)) 1115684864)), ((fneg .f32 (fdiv .f32 (fofInt .f32 (isub .i64 y2 4)) 1132462080)), e5)) y7) fun y10 =>
    Option.bind (g_i_RunSwing e6 y8) fun y11 =>
    Option.bind (g_i_RunSwing y11.2.1 (isub .i64 y7 y8)) fun y12 =>
    bif (!y9.2.2.1) then
      some false
    else
      bif (!y10.2.2.1) then
        some false
      else
        bif (!y11.2.2.1) then
          some false
        else
          bif (!y12.2.2.1) then
            some false
          else
            bif (!(ieq (((List.length y9.1) : Nat) : Int) y7)) then
              some false
            else
              bif (!(ieq (((List.length y10.1) : Nat) : Int) y7)) then
                some false
              else
                bif (Nat.ble (0 + (List.length y11.1)) 4294967296) then
                  bif (Nat.ble ((List.length ([] ++ y11.1)) + (List.length y12.1)) 4294967296) then
                    Option.bind (g_w_r8Same (([] ++ y11.1) ++ y12.1) y9.1) fun y13 =>
                    bif (!y13) then
                      some false
                    else
                      Option.bind (g_i_SameNumber y9.2.1.2.1 y12.2.1.2.1) fun y14 =>
                      bif (!y14) then
                        some false
                      else
                        Option.bind (iter L_w_FnPendulums_1 fuel ((false, (y7, (0, ()))), ((e6, ()), (y9.1, (y10.1, ()))))) fun y15 =>
                        bif y15.1 then
                          some y15.2.1.1
                        else
                          Option.bind (g_i_StepSwing (0, (0, y15.2.2.1.1.2.2))) fun y16 =>
                          bif (feq .f32 y16.1 0) then
                            some (feq .f32 y16.2.1 0)
                          else
                            some false
                  else
                    none
                else
                  none


def L_s_l01SineWide_1 (rec' : (Bool × Nat × Nat × Nat × Int × Unit) × (Unit) → Option ((Bool × Nat × Nat × Unit) × (Unit))) (x : (Bool × Nat × Nat × Nat × Int × Unit) × (Unit)) : Option ((Bool × Nat × Nat × Unit) × (Unit)) := match x with
  | ((below, z, u, p, k, ()), (())) =>
    bif (ile 1 k) then
      rec' ((below, (z, (u, ((fsub .f64 4607182418800017408 (fdiv .f64 (fmul .f64 u p) (fofInt .f64 (imul .i64 (imul .i64 2 k) (iadd .i64 (imul .i64 2 k) 1))))), ((isub .i64 k 1), ()))))), ())
    else
      some ((below, (z, (p, ()))), ())

def g_s_l01SineWide (y : Nat) : Option (Nat) :=
  bif (!(feq .f64 (fsub .f64 y y) 0)) then
    some t_math_NaN
  else
    bif (fge .f64 y 4841369599423283200) then
      some 0
    else
      bif (fle .f64 y 14064741636278059008) then
        some 0
      else
        Option.bind (floatToIntVal .f64 y .i64) fun n1 =>
        let e2 := (fmul .f64 (fsub .f64 (fadd .f64 (fsub .f64 y (fofInt .f64 n1)) 4607182418800017408) 4602678819172646912) 4618760256179416344)
        let e3 := (fmul .f64 (fsub .f64 4602678819172646912 (fadd .f64 (fsub .f64 y (fofInt .f64 n1)) 4607182418800017408)) 4618760256179416344)
        let e4 := (fmul .f64 (fsub .f64 4602678819172646912 (fsub .f64 (fsub .f64 y (fofInt .f64 n1)) 4602678819172646912)) 4618760256179416344)
        let e5 := (fmul .f64 (fsub .f64 4602678819172646912 (fsub .f64 (fadd .f64 (fsub .f64 y (fofInt .f64 n1)) 4607182418800017408) 4602678819172646912)) 4618760256179416344)
        bif (flt .f64 (fsub .f64 y (fofInt .f64 n1)) 0) then
          bif (fge .f64 (fadd .f64 (fsub .f64 y (fofInt .f64 n1)) 4607182418800017408) 4602678819172646912) then
            bif (fgt .f64 (fsub .f64 (fadd .f64 (fsub .f64 y (fofInt .f64 n1)) 4607182418800017408) 4602678819172646912) 4598175219545276416) then
              Option.bind (iter L_s_l01SineWide_1 fuel (((fge .f64 (fadd .f64 (fsub .f64 y (fofInt .f64 n1)) 4607182418800017408) 4602678819172646912), (e5, ((fmul .f64 e5 e5), (4607182418800017408, (8, ()))))), ())) fun y6 =>
              let e7 := (fmul .f64 y6.1.2.1 y6.1.2.2.1)
              bif y6.1.1 then
                some (fneg .f64 e7)
              else
                some e7
            else
              Option.bind (iter L_s_l01SineWide_1 fuel (((fge .f64 (fadd .f64 (fsub .f64 y (fofInt .f64 n1)) 4607182418800017408) 4602678819172646912), (e2, ((fmul .f64 e2 e2), (4607182418800017408, (8, ()))))), ())) fun y8 =>
              let e9 := (fmul .f64 y8.1.2.1 y8.1.2.2.1)
              bif y8.1.1 then
                some (fneg .f64 e9)
              else
                some e9
          else
            bif (fgt .f64 (fadd .f64 (fsub .f64 y (fofInt .f64 n1)) 4607182418800017408) 4598175219545276416) then
              Option.bind (iter L_s_l01SineWide_1 fuel (((fge .f64 (fadd .f64 (fsub .f64 y (fofInt .f64 n1)) 4607182418800017408) 4602678819172646912), (e3, ((fmul .f64 e3 e3), (4607182418800017408, (8, ()))))), ())) fun y10 =>
              let e11 := (fmul .f64 y10.1.2.1 y10.1.2.2.1)
              bif y10.1.1 then
                some (fneg .f64 e11)
              else
                some e11
            else
              Option.bind (iter L_s_l01SineWide_1 fuel (((fge .f64 (fadd .f64 (fsub .f64 y (fofInt .f64 n1)) 4607182418800017408) 4602678819172646912), ((fmul .f64 (fadd .f64 (fsub .f64 y (fofInt .f64 n1)) 4607182418800017408) 4618760256179416344), ((fmul .f64 (fmul .f64 (fadd .f64 (fsub .f64 y (fofInt .f64 n1)) 4607182418800017408) 4618760256179416344) (fmul .f64 (fadd .f64 (fsub .f64 y (fofInt .f64 n1)) 4607182418800017408) 4618760256179416344)), (4607182418800017408, (8, ()))))), ())) fun y12 =>
              let e13 := (fmul .f64 y12.1.2.1 y12.1.2.2.1)
              bif y12.1.1 then
                some (fneg .f64 e13)
              else
                some e13
        else
          bif (fge .f64 (fsub .f64 y (fofInt .f64 n1)) 4602678819172646912) then
            bif (fgt .f64 (fsub .f64 (fsub .f64 y (fofInt .f64 n1)) 4602678819172646912) 4598175219545276416) then
              Option.bind (iter L_s_l01SineWide_1 fuel (((fge .f64 (fsub .f64 y (fofInt .f64 n1)) 4602678819172646912), (e4, ((fmul .f64 e4 e4), (4607182418800017408, (8, ()))))), ())) fun y14 =>
              let e15 := (fmul .f64 y14.1.2.1 y14.1.2.2.1)
              bif y14.1.1 then
                some (fneg .f64 e15)
              else
                some e15
            else
              Option.bind (iter L_s_l01SineWide_1 fuel (((fge .f64 (fsub .f64 y (fofInt .f64 n1)) 4602678819172646912), ((fmul .f64 (fsub .f64 (fsub .f64 y (fofInt .f64 n1)) 4602678819172646912) 4618760256179416344), ((fmul .f64 (fmul .f64 (fsub .f64 (fsub .f64 y (fofInt .f64 n1)) 4602678819172646912) 4618760256179416344) (fmul .f64 (fsub .f64 (fsub .f64 y (fofInt .f64 n1)) 4602678819172646912) 4618760256179416344)), (4607182418800017408, (8, ()))))), ())) fun y16 =>
              let e17 := (fmul .f64 y16.1.2.1 y16.1.2.2.1)
              bif y16.1.1 then
                some (fneg .f64 e17)
              else
                some e17
          else
            bif (fgt .f64 (fsub .f64 y (fofInt .f64 n1)) 4598175219545276416) then
              Option.bind (iter L_s_l01SineWide_1 fuel (((fge .f64 (fsub .f64 y (fofInt .f64 n1)) 4602678819172646912), ((fmul .f64 (fsub .f64 4602678819172646912 (fsub .f64 y (fofInt .f64 n1))) 4618760256179416344), ((fmul .f64 (fmul .f64 (fsub .f64 4602678819172646912 (fsub .f64 y (fofInt .f64 n1))) 4618760256179416344) (fmul .f64 (fsub .f64 4602678819172646912 (fsub .f64 y (fofInt .f64 n1))) 4618760256179416344)), (4607182418800017408, (8, ()))))), ())) fun y18 =>
              let e19 := (fmul .f64 y18.1.2.1 y18.1.2.2.1)
              bif y18.1.1 then
                some (fneg .f64 e19)
              else
                some e19
            else
              Option.bind (iter L_s_l01SineWide_1 fuel (((fge .f64 (fsub .f64 y (fofInt .f64 n1)) 4602678819172646912), ((fmul .f64 (fsub .f64 y (fofInt .f64 n1)) 4618760256179416344), ((fmul .f64 (fmul .f64 (fsub .f64 y (fofInt .f64 n1)) 4618760256179416344) (fmul .f64 (fsub .f64 y (fofInt .f64 n1)) 4618760256179416344)), (4607182418800017408, (8, ()))))), ())) fun y20 =>
              let e21 := (fmul .f64 y20.1.2.1 y20.1.2.2.1)
              bif y20.1.1 then
                some (fneg .f64 e21)
              else
                some e21


def g_s_l01Sine (xx : Nat) : Option (Nat) :=
  Option.bind (g_s_l01SineWide (fwide xx)) fun y1 =>
  Option.bind (g_s_l01Narrow y1) fun y2 =>
  some y2


end
end Go.Fw
