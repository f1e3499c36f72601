/- What the functions compute, as plain Lean functions. No condition. -/
import Derived.Test.YtalhiopcegnobaaCPure
set_option linter.unusedVariables false
namespace Go.Fw
noncomputable section
def g_i_SameSpring (a : dTurn) (b : dTurn) : Option (Bool) :=
  Option.bind (g_i_SameNumber a.1 b.1) fun y1 =>
  bif y1 then
    Option.bind (g_i_SameNumber a.2.1 b.2.1) fun y2 =>
    bif y2 then
      Option.bind (g_i_SameNumber a.2.2.1 b.2.2.1) fun y3 =>
      bif y3 then
        Option.bind (g_i_SameNumber a.2.2.2.1 b.2.2.2.1) fun y4 =>
        some y4
      else
        some false
    else
      some false
  else
    some false


def g_i_IsSubnormal (xx : Nat) : Option (Bool) :=
  bif (!(feq .f32 xx 0)) then
    some (flt .f64 (t_mathabs (fwide xx)) 4039728865751334912)
  else
    some false

def t_i_IsSubnormal (xx : Nat) : Bool :=
  bif (!(feq .f32 xx 0)) then
    (flt .f64 (t_mathabs (fwide xx)) 4039728865751334912)
  else
    false

theorem q_i_IsSubnormal (xx : Nat) : g_i_IsSubnormal xx = some (t_i_IsSubnormal xx) := by
  unfold g_i_IsSubnormal t_i_IsSubnormal; simp only [bif_some_some]


def g_math_Copysign (f : Nat) (sign : Nat) : Option (Nat) :=
  Option.bind (g_float64bits f) fun y1 =>
  Option.bind (g_float64bits sign) fun y2 =>
  some (t_float64frombits (ior .u64 (iandNot .u64 y1 9223372036854775808) (iand .u64 y2 9223372036854775808)))


def g_i_FlushNumber (xx : Nat) : Option (Nat) :=
  bif (t_i_IsSubnormal xx) then
    Option.bind (g_math_Copysign 0 (fwide xx)) fun y1 =>
    Option.bind (fconv .f64 .f32 y1) fun y2 =>
    some y2
  else
    some xx


def g_i_drawn (place : Nat) (speed : Nat) (stiff : Nat) (damp : Nat) (goal : Nat) : Option ((Nat × (Nat × Unit))) :=
  Option.bind (g_i_FlushNumber (fmul .f32 (fadd .f32 speed (fmul .f32 stiff (fsub .f32 goal place))) damp)) fun y1 =>
  Option.bind (g_i_FlushNumber (fadd .f32 place y1)) fun y2 =>
  some (y2, (y1, ()))


def g_i_StepSpring (s : dTurn) (goal : Nat) : Option (dTurn) :=
  Option.bind (g_i_drawn s.1 s.2.1 s.2.2.1 s.2.2.2.1 goal) fun y1 =>
  some (y1.1, (y1.2.1, s.2.2))


def g_w_r8Long (code : (List Int)) (more : (List Int)) : Option (Bool) :=
  bif (ilt 48 (((List.length code) : Nat) : Int)) then
    some true
  else
    some (ilt 48 (((List.length more) : Nat) : Int))

def t_w_r8Long (code : (List Int)) (more : (List Int)) : Bool :=
  bif (ilt 48 (((List.length code) : Nat) : Int)) then
    true
  else
    (ilt 48 (((List.length more) : Nat) : Int))

theorem q_w_r8Long (code : (List Int)) (more : (List Int)) : g_w_r8Long code more = some (t_w_r8Long code more) := by
  unfold g_w_r8Long t_w_r8Long; simp only [bif_some_some]


def g_s_l00From (code : (List Int)) : Option (dSrc × ((List Int) × Unit)) :=
  some ((code, (0, (0, ()))), (code, ()))

def t_s_l00From (code : (List Int)) : dSrc × ((List Int) × Unit) :=
  ((code, (0, (0, ()))), (code, ()))

theorem q_s_l00From (code : (List Int)) : g_s_l00From code = some (t_s_l00From code) := rfl


def g_s_l00Src_next (s : dSrc) : Option (Int × (dSrc × Unit)) :=
  let e1 := (ile (iadd .i64 s.2.1 1) (((List.length s.1) : Nat) : Int))
  let e2 := (iadd .u64 (iadd .u64 (imul .u64 s.2.2.1 6364136223846793005) 0) 1442695040888963407)
  let e3 := ((s.1, ((iadd .i64 s.2.1 1), (e2, ()))), ())
  bif (ilt s.2.1 (((List.length s.1) : Nat) : Int)) then
    Option.bind (ix s.2.1 (List.length s.1)) fun j4 =>
    let e5 := (iadd .u64 (iadd .u64 (imul .u64 s.2.2.1 6364136223846793005) (iconv .u64 (iconv .i64 (List.getD s.1 j4 (0 : Int))))) 1442695040888963407)
    let e6 := ((s.1, ((iadd .i64 s.2.1 1), (e5, ()))), ())
    bif e1 then
      some ((iconv .i64 (List.getD s.1 j4 (0 : Int))), e6)
    else
      some ((iconv .i64 (iand .u64 (ishr .u64 e5 40) 255)), e6)
  else
    bif e1 then
      some (0, e3)
    else
      some ((iconv .i64 (iand .u64 (ishr .u64 e2 40) 255)), e3)


def g_s_l00Src_pick (s : dSrc) (n : Int) : Option (Int × (dSrc × Int × Unit)) :=
  bif (ile n 1) then
    some (0, (s, (n, ())))
  else
    Option.bind (g_s_l00Src_next s) fun y1 =>
    bif (ilt 200 n) then
      Option.bind (g_s_l00Src_next y1.2.1) fun y2 =>
      bif (nz n) then
        some ((irem .i64 (iadd .i64 (imul .i64 y1.1 256) y2.1) n), (y2.2.1, (n, ())))
      else
        none
    else
      bif (nz n) then
        some ((irem .i64 y1.1 n), (y1.2.1, (n, ())))
      else
        none


def g_s_l01DrawSmall (s : dSrc) : Option (Nat × (dSrc × Unit)) :=
  Option.bind (g_s_l00Src_pick s 33) fun y1 =>
  some ((fdiv .f32 (fofInt .f32 (isub .i64 y1.1 16)) 1082130432), (y1.2.1, ()))


def g_s_R8Small (code : (List Int)) : Option (dVec) :=
  Option.bind (g_s_l01DrawSmall (t_s_l00From code).1) fun y1 =>
  Option.bind (g_s_l01DrawSmall y1.2.1) fun y2 =>
  Option.bind (g_s_l01DrawSmall y2.2.1) fun y3 =>
  some (y1.1, (y2.1, (y3.1, ())))


def g_w_r8At (code : (List Int)) (k : Int) (n : Int) : Option (Int) :=
  bif (ile n 1) then
    some 0
  else
    bif (ile (((List.length code) : Nat) : Int) k) then
      some 0
    else
      Option.bind (ix k (List.length code)) fun j1 =>
      bif (nz n) then
        some (irem .i64 (iconv .i64 (List.getD code j1 (0 : Int))) n)
      else
        none


def g_i_StepPoint (p : dSpringPoint) (goal : dVec) : Option (dSpringPoint) :=
  Option.bind (g_i_drawn p.1.1 p.2.1.1 p.2.2.1 p.2.2.2.1 goal.1) fun y1 =>
  Option.bind (g_i_drawn p.1.2.1 p.2.1.2.1 p.2.2.1 p.2.2.2.1 goal.2.1) fun y2 =>
  Option.bind (g_i_drawn p.1.2.2.1 p.2.1.2.2.1 p.2.2.1 p.2.2.2.1 goal.2.2.1) fun y3 =>
  some ((y1.1, (y2.1, (y3.1, ()))), ((y1.2.1, (y2.2.1, y3.2)), p.2.2))


def L_w_r8Same_1 (rec' : ((List Nat) × (List Nat) × Bool × Int × Unit) × (Unit) → Option (Bool × ((Bool × Unit) × (Unit)))) (x : ((List Nat) × (List Nat) × Bool × Int × Unit) × (Unit)) : Option (Bool × ((Bool × Unit) × (Unit))) := match x with
  | ((a, b, t4, i, ()), (())) =>
    bif (ilt i (((List.length a) : Nat) : Int)) then
      Option.bind (ix i (List.length a)) fun j1 =>
      Option.bind (ix i (List.length b)) fun j2 =>
      Option.bind (g_i_SameNumber (List.getD a j1 (0 : Nat)) (List.getD b j2 (0 : Nat))) fun y3 =>
      bif (!y3) then
        some (true, ((false, ()), ()))
      else
        rec' ((a, (b, (t4, ((iadd .i64 i 1), ())))), ())
    else
      some (false, ((t4, ()), ()))

def g_w_r8Same (a : (List Nat)) (b : (List Nat)) : Option (Bool) :=
  bif (!(ieq (((List.length a) : Nat) : Int) (((List.length b) : Nat) : Int))) then
    some false
  else
    Option.bind (iter L_w_r8Same_1 fuel ((a, (b, (false, (0, ())))), ())) fun y1 =>
    bif y1.1 then
      some y1.2.1.1
    else
      some true


def L_i_RunSpring_1 (rec' : ((List Nat) × Int × Int × Unit) × ((dTurn × Unit) × (dTurn × Unit) × (List Nat) × Unit) → Option ((Unit) × ((dTurn × Unit) × (dTurn × Unit) × (List Nat) × Unit))) (x : ((List Nat) × Int × Int × Unit) × ((dTurn × Unit) × (dTurn × Unit) × (List Nat) × Unit)) : Option ((Unit) × ((dTurn × Unit) × (dTurn × Unit) × (List Nat) × Unit)) := match x with
  | ((t14, t15, t16, ()), ((b0, ()), (b1, ()), r2, ())) =>
    bif (ilt t16 t15) then
      Option.bind (ix t16 (List.length t14)) fun j1 =>
      Option.bind (g_i_StepSpring b0 (List.getD t14 j1 (0 : Nat))) fun y2 =>
      bif (Nat.ble ((List.length r2) + 1) 4294967296) then
        rec' ((t14, (t15, ((iadd .i64 t16 1), ()))), ((y2, ()), ((b1, ()), ((r2 ++ [y2.1]), ()))))
      else
        none
    else
      some ((), ((b0, ()), ((b1, ()), (r2, ()))))

def g_i_RunSpring (s : dTurn) (goals : (List Nat)) : Option (((List Nat) × (dTurn × (Bool × Unit)))) :=
  let e1 := (0, (0, (0, (0, ()))))
  bif (ilt 256 (((List.length goals) : Nat) : Int)) then
    some (([] : List Nat), (e1, (false, ())))
  else
    Option.bind (iter L_i_RunSpring_1 fuel ((goals, ((((List.length goals) : Nat) : Int), (0, ()))), ((s, ()), ((e1, ()), (([] : List Nat), ()))))) fun y2 =>
    some (y2.2.2.2.1, (y2.2.1.1, (true, ())))


def g_s_l00Src_one (s : dSrc) (n : Int) : Option (Bool × (dSrc × Int × Unit)) :=
  Option.bind (g_s_l00Src_pick s n) fun y1 =>
  some ((ieq y1.1 0), (y1.2.1, (n, ())))


def g_s_l01DrawPlain (s : dSrc) : Option (Nat × (dSrc × Unit)) :=
  Option.bind (g_s_l00Src_pick s 129) fun y1 =>
  Option.bind (g_s_l00Src_one y1.2.1 4) fun y2 =>
  bif y2.1 then
    some ((fdiv .f32 (fofInt .f32 (isub .i64 y1.1 64)) 1088421888), (y2.2.1, ()))
  else
    some ((fdiv .f32 (fofInt .f32 (isub .i64 y1.1 64)) 1098907648), (y2.2.1, ()))


def g_s_l00Src_among (s : dSrc) (list : (List Int)) : Option (Int × (dSrc × (List Int) × Unit)) :=
  Option.bind (g_s_l00Src_pick s (((List.length list) : Nat) : Int)) fun y1 =>
  Option.bind (ix y1.1 (List.length list)) fun j2 =>
  some ((List.getD list j2 (0 : Int)), (y1.2.1, (list, ())))


def g_s_l01DrawFloat (s : dSrc) : Option (Nat × (dSrc × Unit)) :=
  Option.bind (g_s_l00Src_one s 12) fun y1 =>
  bif (!y1.1) then
    Option.bind (g_s_l01DrawPlain y1.2.1) fun y2 =>
    some y2
  else
    Option.bind (g_s_l00Src_pick y1.2.1 4) fun y3 =>
    bif (ieq y3.1 0) then
      Option.bind (g_s_l00Src_among y3.2.1 [0, 2147483648, 2139095040, 4286578688, 2143289344, 1, 2139095039, 8388608, 8388607, 2147483649]) fun y4 =>
      some ((t_s_l01From y4.1), (y4.2.1, ()))
    else
      bif (ieq y3.1 1) then
        Option.bind (g_s_l00Src_pick y3.2.1 65536) fun y5 =>
        Option.bind (g_s_l00Src_pick y5.2.1 65536) fun y6 =>
        some ((t_s_l01From (iadd .i64 (imul .i64 y5.1 65536) y6.1)), (y6.2.1, ()))
      else
        bif (ieq y3.1 2) then
          Option.bind (g_s_l00Src_pick y3.2.1 65536) fun y7 =>
          some ((t_s_l01From (imul .i64 y7.1 65536)), (y7.2.1, ()))
        else
          Option.bind (g_s_l01DrawPlain y3.2.1) fun y8 =>
          Option.bind (g_s_l00Src_among y8.2.1 [8388608, 2130706432, 1610612736, 536870912]) fun y9 =>
          some ((fmul .f32 y8.1 (t_s_l01From y9.1)), (y9.2.1, ()))


def g_s_l02DrawShare (s : dSrc) : Option (Nat × (dSrc × Unit)) :=
  Option.bind (g_s_l00Src_one s 10) fun y1 =>
  bif y1.1 then
    Option.bind (g_s_l01DrawFloat y1.2.1) fun y2 =>
    some y2
  else
    Option.bind (g_s_l00Src_pick y1.2.1 17) fun y3 =>
    some ((fdiv .f32 (fofInt .f32 y3.1) 1098907648), (y3.2.1, ()))


def g_s_l08DrawSpring (s : dSrc) : Option (dTurn × (dSrc × Unit)) :=
  Option.bind (g_s_l01DrawSmall s) fun y1 =>
  Option.bind (g_s_l01DrawSmall y1.2.1) fun y2 =>
  Option.bind (g_s_l02DrawShare y2.2.1) fun y3 =>
  Option.bind (g_s_l02DrawShare y3.2.1) fun y4 =>
  let e5 := (y2.1, (y3.1, (y4.1, ())))
  Option.bind (g_s_l00Src_one y4.2.1 8) fun y6 =>
  bif y6.1 then
    Option.bind (g_s_l01DrawFloat y6.2.1) fun y7 =>
    some ((y7.1, e5), y7.2)
  else
    some ((y1.1, e5), (y6.2.1, ()))


def g_s_R8Spring (code : (List Int)) : Option (dTurn) :=
  Option.bind (g_s_l08DrawSpring (t_s_l00From code).1) fun y1 =>
  some y1.1


def L_s_l01DrawFloats_1 (rec' : (Int × Bool × Unit) × (dSrc × (List Nat) × Unit) → Option ((Unit) × (dSrc × (List Nat) × Unit))) (x : (Int × Bool × Unit) × (dSrc × (List Nat) × Unit)) : Option ((Unit) × (dSrc × (List Nat) × Unit)) := match x with
  | ((n, strange, ()), (s0, r1, ())) =>
    bif (ilt 0 n) then
      bif strange then
        Option.bind (g_s_l01DrawFloat s0) fun y1 =>
        bif (Nat.ble ((List.length r1) + 1) 4294967296) then
          rec' (((isub .i64 n 1), (strange, ())), (y1.2.1, ((r1 ++ [y1.1]), ())))
        else
          none
      else
        Option.bind (g_s_l01DrawPlain s0) fun y2 =>
        bif (Nat.ble ((List.length r1) + 1) 4294967296) then
          rec' (((isub .i64 n 1), (strange, ())), (y2.2.1, ((r1 ++ [y2.1]), ())))
        else
          none
    else
      some ((), (s0, (r1, ())))

def g_s_l01DrawFloats (s : dSrc) (n : Int) : Option ((List Nat) × (dSrc × Int × Unit)) :=
  Option.bind (g_s_l00Src_one s 4) fun y1 =>
  Option.bind (iter L_s_l01DrawFloats_1 fuel ((n, (y1.1, ())), (y1.2.1, ([], ())))) fun y2 =>
  some (y2.2.2.1, (y2.2.1, (n, ())))


def g_s_R8Goals (code : (List Int)) (most : Int) : Option ((List Nat)) :=
  Option.bind (g_s_l00Src_pick (t_s_l00From code).1 (iadd .i64 most 1)) fun y1 =>
  Option.bind (g_s_l01DrawFloats y1.2.1 y1.1) fun y2 =>
  some y2.1


def L_w_FnSprings_1 (rec' : ((List Int) × (List Int) × Bool × Int × Unit) × ((dTurn × Unit) × (List Nat) × (List Nat) × (dTurn × Unit) × Unit) → Option (Bool × (((List Int) × (List Int) × Bool × Unit) × ((dTurn × Unit) × Unit)))) (x : ((List Int) × (List Int) × Bool × Int × Unit) × ((dTurn × Unit) × (List Nat) × (List Nat) × (dTurn × Unit) × Unit)) : Option (Bool × (((List Int) × (List Int) × Bool × Unit) × ((dTurn × Unit) × Unit))) := match x with
  | ((code, more, t4, i, ()), ((b0, ()), r1, r2, (b9, ()), ())) =>
    let e1 := (true, ((code, (more, (false, ()))), ((b0, ()), ())))
    bif (ilt i (((List.length r1) : Nat) : Int)) then
      Option.bind (ix i (List.length r1)) fun j2 =>
      Option.bind (g_i_StepSpring b9 (List.getD r1 j2 (0 : Nat))) fun y3 =>
      Option.bind (ix i (List.length r2)) fun j4 =>
      Option.bind (g_i_SameNumber y3.1 (List.getD r2 j4 (0 : Nat))) fun y5 =>
      bif (!y5) then
        some e1
      else
        bif (t_i_IsSubnormal y3.1) then
          some e1
        else
          bif (t_i_IsSubnormal y3.2.1) then
            some e1
          else
            rec' ((code, (more, (t4, ((iadd .i64 i 1), ())))), ((b0, ()), (r1, (r2, ((y3, ()), ())))))
    else
      some (false, ((code, (more, (t4, ()))), ((b0, ()), ())))

def g_w_FnSprings (code : (List Int)) (more : (List Int)) : Option (Bool) :=
  bif (t_w_r8Long code more) then
    some true
  else
    Option.bind (g_s_R8Spring code) fun y1 =>
    Option.bind (g_s_R8Goals more 12) fun y2 =>
    Option.bind (g_w_r8At code 40 (iadd .i64 (((List.length y2) : Nat) : Int) 1)) fun y3 =>
    let e4 := ((decide ((0 : Int) ≤ y3)) && (decide ((y3 : Int) ≤ (((List.length y2) : Nat) : Int))))
    Option.bind (g_i_RunSpring y1 y2) fun y5 =>
    bif e4 then
      Option.bind (g_i_RunSpring y1 (List.take (Int.toNat y3) (List.drop 0 y2))) fun y6 =>
      bif e4 then
        Option.bind (g_i_RunSpring y6.2.1 (List.take ((List.length y2) - (Int.toNat y3)) (List.drop (Int.toNat y3) y2))) fun y7 =>
        bif (!y5.2.2.1) then
          some false
        else
          bif (!y6.2.2.1) then
            some false
          else
            bif (!y7.2.2.1) then
              some false
            else
              bif (!(ieq (((List.length y5.1) : Nat) : Int) (((List.length y2) : Nat) : Int))) then
                some false
              else
                Option.bind (g_i_SameSpring y5.2.1 y7.2.1) fun y8 =>
                bif (!y8) then
                  some false
                else
                  bif (Nat.ble (0 + (List.length y6.1)) 4294967296) then
                    bif (Nat.ble ((List.length ([] ++ y6.1)) + (List.length y7.1)) 4294967296) then
                      Option.bind (g_w_r8Same (([] ++ y6.1) ++ y7.1) y5.1) fun y9 =>
                      bif (!y9) then
                        some false
                      else
                        Option.bind (iter L_w_FnSprings_1 fuel ((code, (more, (false, (0, ())))), ((y1, ()), (y2, (y5.1, ((y1, ()), ())))))) fun y10 =>
                        bif y10.1 then
                          some y10.2.1.2.2.1
                        else
                          Option.bind (g_s_R8Small y10.2.1.1) fun y11 =>
                          Option.bind (g_s_R8Small y10.2.1.2.1) fun y12 =>
                          Option.bind (g_i_StepPoint (y11, (y12, y10.2.2.1.1.2.2)) y12) fun y13 =>
                          Option.bind (g_i_StepSpring (y11.2.1, (y12.2.1, y10.2.2.1.1.2.2)) y12.2.1) fun y14 =>
                          Option.bind (g_i_SameNumber y13.1.2.1 y14.1) fun y15 =>
                          bif y15 then
                            Option.bind (g_i_SameNumber y13.2.1.2.1 y14.2.1) fun y16 =>
                            bif y16 then
                              Option.bind (g_i_SameNumber y13.2.2.1 y10.2.2.1.1.2.2.1) fun y17 =>
                              some y17
                            else
                              some false
                          else
                            some false
                    else
                      none
                  else
                    none
      else
        none
    else
      none


end
end Go.Fw
