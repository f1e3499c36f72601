/- What the functions compute, as plain Lean functions. No condition. -/
import Derived.Test.YthmpjkfccbchfaaSPure
set_option linter.unusedVariables false
namespace Go.Fw
noncomputable section
def g_w_b10Long (code : (List Int)) (more : (List Int)) : Option (Bool) :=
  bif (ilt 1048576 (((List.length code) : Nat) : Int)) then
    some true
  else
    some (ilt 1048576 (((List.length more) : Nat) : Int))

def t_w_b10Long (code : (List Int)) (more : (List Int)) : Bool :=
  bif (ilt 1048576 (((List.length code) : Nat) : Int)) then
    true
  else
    (ilt 1048576 (((List.length more) : Nat) : Int))

theorem q_w_b10Long (code : (List Int)) (more : (List Int)) : g_w_b10Long code more = some (t_w_b10Long code more) := by
  unfold g_w_b10Long t_w_b10Long; simp only [bif_some_some]


def g_s_SameNumber (a : Nat) (b : Nat) : Option (Bool) :=
  Option.bind (g_s_l01Same a b) fun y1 =>
  some y1


def g_w_b10At (code : (List Int)) (i : Int) (n : Int) : Option (Int) :=
  bif (ile n 1) then
    some 0
  else
    bif (ilt i (((List.length code) : Nat) : Int)) then
      Option.bind (ix i (List.length code)) fun j1 =>
      bif (nz n) then
        some (irem .i64 (iconv .i64 (List.getD code j1 (0 : Int))) n)
      else
        none
    else
      bif (nz n) then
        some (irem .i64 (iadd .i64 (imul .i64 i 37) 11) n)
      else
        none


def g_s_B10Numbers (code : (List Int)) (n : Int) : Option ((List Nat)) :=
  Option.bind (g_s_l01DrawFloats (t_s_l00From code).1 n) fun y1 =>
  some y1.1


def L_i_sum_1 (rec' : (Nat × (List Nat) × Int × Int × Unit) × (Unit) → Option ((Nat × Unit) × (Unit))) (x : (Nat × (List Nat) × Int × Int × Unit) × (Unit)) : Option ((Nat × Unit) × (Unit)) := match x with
  | ((s, t6, t7, t8, ()), (())) =>
    bif (ilt t8 t7) then
      Option.bind (ix t8 (List.length t6)) fun j1 =>
      rec' (((fadd .f32 s (List.getD t6 j1 (0 : Nat))), (t6, (t7, ((iadd .i64 t8 1), ())))), ())
    else
      some ((s, ()), ())

def g_i_sum (list : (List Nat)) : Option (Nat) :=
  Option.bind (iter L_i_sum_1 fuel ((0, (list, ((((List.length list) : Nat) : Int), (0, ())))), ())) fun y1 =>
  some y1.1.1


def g_i_SumNumbers (list : (List Nat)) : Option ((Nat × (Bool × Unit))) :=
  bif (ilt 256 (((List.length list) : Nat) : Int)) then
    some (0, (false, ()))
  else
    Option.bind (g_i_sum list) fun y1 =>
    some (y1, (true, ()))


def L_i_DotNumbers_1 (rec' : ((List Nat) × Nat × (List Nat) × Int × Int × Unit) × (Unit) → Option ((Nat × Unit) × (Unit))) (x : ((List Nat) × Nat × (List Nat) × Int × Int × Unit) × (Unit)) : Option ((Nat × Unit) × (Unit)) := match x with
  | ((b, s, t19, t20, t21, ()), (())) =>
    bif (ilt t21 t20) then
      Option.bind (ix t21 (List.length t19)) fun j1 =>
      Option.bind (ix t21 (List.length b)) fun j2 =>
      rec' ((b, ((fadd .f32 s (fmul .f32 (List.getD t19 j1 (0 : Nat)) (List.getD b j2 (0 : Nat)))), (t19, (t20, ((iadd .i64 t21 1), ()))))), ())
    else
      some ((s, ()), ())

def g_i_DotNumbers (a : (List Nat)) (b : (List Nat)) : Option ((Nat × (Bool × Unit))) :=
  bif (ilt 256 (((List.length a) : Nat) : Int)) then
    some (0, (false, ()))
  else
    bif (!(ieq (((List.length a) : Nat) : Int) (((List.length b) : Nat) : Int))) then
      some (0, (false, ()))
    else
      Option.bind (iter L_i_DotNumbers_1 fuel ((b, (0, (a, ((((List.length a) : Nat) : Int), (0, ()))))), ())) fun y1 =>
      some (y1.1.1, (true, ()))


def L_i_sumPairs (rec' : (List Nat) → Option (Nat)) (list : (List Nat)) : Option (Nat) :=
  let e1 := ((decide ((0 : Int) ≤ (iquo .i64 (iadd .i64 (((List.length list) : Nat) : Int) 1) 2))) && (decide (((iquo .i64 (iadd .i64 (((List.length list) : Nat) : Int) 1) 2) : Int) ≤ (((List.length list) : Nat) : Int))))
  bif (ieq (((List.length list) : Nat) : Int) 0) then
    some 0
  else
    bif (ieq (((List.length list) : Nat) : Int) 1) then
      Option.bind (ix 0 (List.length list)) fun j2 =>
      some (List.getD list j2 (0 : Nat))
    else
      bif e1 then
        Option.bind (rec' (List.drop 0 (List.take (Int.toNat (iquo .i64 (iadd .i64 (((List.length list) : Nat) : Int) 1) 2)) list))) fun y3 =>
        bif e1 then
          Option.bind (rec' (List.drop (Int.toNat (iquo .i64 (iadd .i64 (((List.length list) : Nat) : Int) 1) 2)) (List.take (List.length list) list))) fun y4 =>
          some (fadd .f32 y3 y4)
        else
          none
      else
        none

def g_i_sumPairs_ : Nat → (List Nat) → Option (Nat)
  | 0, _ => none
  | n' + 1, list => L_i_sumPairs (g_i_sumPairs_ n') list
def g_i_sumPairs (list : (List Nat)) : Option (Nat) := g_i_sumPairs_ 64 list


def g_i_SumPairs (list : (List Nat)) : Option ((Nat × (Bool × Unit))) :=
  bif (ilt 256 (((List.length list) : Nat) : Int)) then
    some (0, (false, ()))
  else
    Option.bind (g_i_sumPairs list) fun y1 =>
    some (y1, (true, ()))


def L_s_B10Whole_1 (rec' : (Int × Int × Unit) × (dSrc × (List Nat) × Unit) → Option ((Unit) × ((List Nat) × Unit))) (x : (Int × Int × Unit) × (dSrc × (List Nat) × Unit)) : Option ((Unit) × ((List Nat) × Unit)) := match x with
  | ((n, most, ()), (s0, r1, ())) =>
    bif (ilt 0 n) then
      Option.bind (g_s_l00Src_pick s0 (iadd .i64 (imul .i64 2 most) 1)) fun y1 =>
      bif (Nat.ble ((List.length r1) + 1) 4294967296) then
        rec' (((isub .i64 n 1), (most, ())), (y1.2.1, ((r1 ++ [(fofInt .f32 (isub .i64 y1.1 most))]), ())))
      else
        none
    else
      some ((), (r1, ()))

def g_s_B10Whole (code : (List Int)) (n : Int) (most : Int) : Option ((List Nat)) :=
  Option.bind (iter L_s_B10Whole_1 fuel ((n, (most, ())), ((t_s_l00From code).1, ([], ())))) fun y1 =>
  some y1.2.1


def L_i_DotWide_1 (rec' : ((List Nat) × Nat × (List Nat) × Int × Int × Unit) × (Unit) → Option ((Nat × Unit) × (Unit))) (x : ((List Nat) × Nat × (List Nat) × Int × Int × Unit) × (Unit)) : Option ((Nat × Unit) × (Unit)) := match x with
  | ((b, s, t19, t20, t21, ()), (())) =>
    bif (ilt t21 t20) then
      Option.bind (ix t21 (List.length t19)) fun j1 =>
      Option.bind (ix t21 (List.length b)) fun j2 =>
      rec' ((b, ((fadd .f64 s (fmul .f64 (fwide (List.getD t19 j1 (0 : Nat))) (fwide (List.getD b j2 (0 : Nat))))), (t19, (t20, ((iadd .i64 t21 1), ()))))), ())
    else
      some ((s, ()), ())

def g_i_DotWide (a : (List Nat)) (b : (List Nat)) : Option ((Nat × (Bool × Unit))) :=
  bif (ilt 256 (((List.length a) : Nat) : Int)) then
    some (0, (false, ()))
  else
    bif (!(ieq (((List.length a) : Nat) : Int) (((List.length b) : Nat) : Int))) then
      some (0, (false, ()))
    else
      Option.bind (iter L_i_DotWide_1 fuel ((b, (0, (a, ((((List.length a) : Nat) : Int), (0, ()))))), ())) fun y1 =>
      Option.bind (fconv .f64 .f32 y1.1.1) fun y2 =>
      some (y2, (true, ()))


def L_w_FnSums_2 (rec' : (Int × Nat × Bool × Nat × Bool × Nat × Bool × Nat × Bool × Nat × Bool × Int × Int × Int × Unit) × ((List Nat) × Unit) → Option ((Nat × Bool × Nat × Bool × Nat × Bool × Nat × Bool × Nat × Bool × Int × Int × Unit) × (Unit))) (x : (Int × Nat × Bool × Nat × Bool × Nat × Bool × Nat × Bool × Nat × Bool × Int × Int × Int × Unit) × ((List Nat) × Unit)) : Option ((Nat × Bool × Nat × Bool × Nat × Bool × Nat × Bool × Nat × Bool × Int × Int × Unit) × (Unit)) := match x with
  | ((n, c, six, d, seven, e, eight, f, nine, g, ten, exact, squares, i, ()), (r2, ())) =>
    bif (ilt i n) then
      Option.bind (ix i (List.length r2)) fun j1 =>
      Option.bind (floatToIntVal .f32 (List.getD r2 j1 (0 : Nat)) .i64) fun n2 =>
      Option.bind (ix i (List.length r2)) fun j3 =>
      Option.bind (floatToIntVal .f32 (List.getD r2 j3 (0 : Nat)) .i64) fun n4 =>
      Option.bind (ix i (List.length r2)) fun j5 =>
      Option.bind (floatToIntVal .f32 (List.getD r2 j5 (0 : Nat)) .i64) fun n6 =>
      rec' ((n, (c, (six, (d, (seven, (e, (eight, (f, (nine, (g, (ten, ((iadd .i64 exact n2), ((iadd .i64 squares (imul .i64 n4 n6)), ((iadd .i64 i 1), ())))))))))))))), (r2, ()))
    else
      some ((c, (six, (d, (seven, (e, (eight, (f, (nine, (g, (ten, (exact, (squares, ())))))))))))), ())

def L_w_FnSums_1 (rec' : ((List Int) × Int × Nat × Int × Unit) × ((List Nat) × (List Nat) × Unit) → Option (((List Int) × Int × Nat × Unit) × ((List Nat) × (List Nat) × Unit))) (x : ((List Int) × Int × Nat × Int × Unit) × ((List Nat) × (List Nat) × Unit)) : Option (((List Int) × Int × Nat × Unit) × ((List Nat) × (List Nat) × Unit)) := match x with
  | ((more, n, sum, i, ()), (r0, r1, ())) =>
    bif (ilt i n) then
      bif (Nat.ble ((List.length r1) + 1) 4294967296) then
        Option.bind (ix i (List.length r0)) fun j1 =>
        rec' ((more, (n, ((fadd .f32 sum (List.getD r0 j1 (0 : Nat))), ((iadd .i64 i 1), ())))), (r0, ((r1 ++ [1065353216]), ())))
      else
        none
    else
      some ((more, (n, (sum, ()))), (r0, (r1, ())))

def g_w_FnSums (code : (List Int)) (more : (List Int)) : Option (Bool) :=
  bif (t_w_b10Long code more) then
    some true
  else
    Option.bind (g_w_b10At code 0 20) fun y1 =>
    Option.bind (g_s_B10Numbers code y1) fun y2 =>
    Option.bind (iter L_w_FnSums_1 fuel ((more, (y1, (0, (0, ())))), (y2, ([], ())))) fun y3 =>
    let e4 := (Int.toNat (iquo .i64 (iadd .i64 y3.1.2.1 1) 2))
    let e5 := (g_s_B10Whole y3.1.1 y3.1.2.1 100)
    let e6 := ((decide ((0 : Int) ≤ (iquo .i64 (iadd .i64 y3.1.2.1 1) 2))) && (decide (((iquo .i64 (iadd .i64 y3.1.2.1 1) 2) : Int) ≤ (((List.length y3.2.1) : Nat) : Int))))
    Option.bind (g_i_SumNumbers y3.2.1) fun y7 =>
    Option.bind (g_i_DotNumbers y3.2.1 y3.2.2.1) fun y8 =>
    Option.bind (g_i_SumPairs y3.2.1) fun y9 =>
    bif e6 then
      Option.bind (g_i_SumPairs (List.take e4 (List.drop 0 y3.2.1))) fun y10 =>
      bif e6 then
        Option.bind (g_i_SumPairs (List.take ((List.length y3.2.1) - e4) (List.drop e4 y3.2.1))) fun y11 =>
        bif (!y7.2.1) then
          some false
        else
          bif (!y8.2.1) then
            some false
          else
            bif (!y9.2.1) then
              some false
            else
              bif (!y10.2.1) then
                some false
              else
                bif (!y11.2.1) then
                  some false
                else
                  Option.bind (g_s_SameNumber y7.1 y3.1.2.2.1) fun y12 =>
                  bif (!y12) then
                    some false
                  else
                    Option.bind (g_s_SameNumber y8.1 y3.1.2.2.1) fun y13 =>
                    bif (!y13) then
                      some false
                    else
                      bif (ilt 1 y3.1.2.1) then
                        Option.bind (g_s_SameNumber y9.1 (fadd .f32 y10.1 y11.1)) fun y14 =>
                        bif (!y14) then
                          some false
                        else
                          Option.bind e5 fun y15 =>
                          Option.bind (g_i_SumNumbers y15) fun y16 =>
                          Option.bind (g_i_SumPairs y15) fun y17 =>
                          bif (Nat.ble (0 + (List.length y15)) 4294967296) then
                            Option.bind (g_i_SumPairs ([] ++ y15)) fun y18 =>
                            Option.bind (g_i_DotNumbers y15 y15) fun y19 =>
                            Option.bind (g_i_DotWide y15 y15) fun y20 =>
                            Option.bind (iter L_w_FnSums_2 fuel ((y3.1.2.1, (y16.1, (y16.2.1, (y17.1, (y17.2.1, (y18.1, (y18.2.1, (y19.1, (y19.2.1, (y20.1, (y20.2.1, (0, (0, (0, ())))))))))))))), (y15, ()))) fun y21 =>
                            bif y21.1.2.1 then
                              bif y21.1.2.2.2.1 then
                                bif y21.1.2.2.2.2.2.1 then
                                  bif y21.1.2.2.2.2.2.2.2.1 then
                                    bif y21.1.2.2.2.2.2.2.2.2.2.1 then
                                      bif (feq .f32 y21.1.1 (fofInt .f32 y21.1.2.2.2.2.2.2.2.2.2.2.1)) then
                                        bif (feq .f32 y21.1.2.2.1 y21.1.1) then
                                          bif (feq .f32 y21.1.2.2.2.2.1 y21.1.1) then
                                            bif (feq .f32 y21.1.2.2.2.2.2.2.1 (fofInt .f32 y21.1.2.2.2.2.2.2.2.2.2.2.2.1)) then
                                              some (feq .f32 y21.1.2.2.2.2.2.2.2.2.1 y21.1.2.2.2.2.2.2.1)
                                            else
                                              some false
                                          else
                                            some false
                                        else
                                          some false
                                      else
                                        some false
                                    else
                                      some false
                                  else
                                    some false
                                else
                                  some false
                              else
                                some false
                            else
                              some false
                          else
                            none
                      else
                        Option.bind e5 fun y22 =>
                        Option.bind (g_i_SumNumbers y22) fun y23 =>
                        Option.bind (g_i_SumPairs y22) fun y24 =>
                        bif (Nat.ble (0 + (List.length y22)) 4294967296) then
                          Option.bind (g_i_SumPairs ([] ++ y22)) fun y25 =>
                          Option.bind (g_i_DotNumbers y22 y22) fun y26 =>
                          Option.bind (g_i_DotWide y22 y22) fun y27 =>
                          Option.bind (iter L_w_FnSums_2 fuel ((y3.1.2.1, (y23.1, (y23.2.1, (y24.1, (y24.2.1, (y25.1, (y25.2.1, (y26.1, (y26.2.1, (y27.1, (y27.2.1, (0, (0, (0, ())))))))))))))), (y22, ()))) fun y28 =>
                          bif y28.1.2.1 then
                            bif y28.1.2.2.2.1 then
                              bif y28.1.2.2.2.2.2.1 then
                                bif y28.1.2.2.2.2.2.2.2.1 then
                                  bif y28.1.2.2.2.2.2.2.2.2.2.1 then
                                    bif (feq .f32 y28.1.1 (fofInt .f32 y28.1.2.2.2.2.2.2.2.2.2.2.1)) then
                                      bif (feq .f32 y28.1.2.2.1 y28.1.1) then
                                        bif (feq .f32 y28.1.2.2.2.2.1 y28.1.1) then
                                          bif (feq .f32 y28.1.2.2.2.2.2.2.1 (fofInt .f32 y28.1.2.2.2.2.2.2.2.2.2.2.2.1)) then
                                            some (feq .f32 y28.1.2.2.2.2.2.2.2.2.1 y28.1.2.2.2.2.2.2.1)
                                          else
                                            some false
                                        else
                                          some false
                                      else
                                        some false
                                    else
                                      some false
                                  else
                                    some false
                                else
                                  some false
                              else
                                some false
                            else
                              some false
                          else
                            some false
                        else
                          none
      else
        none
    else
      none


def t_i_CrossOf (a : dVec) (b : dVec) : dVec :=
  ((fsub .f32 (fmul .f32 a.2.1 b.2.2.1) (fmul .f32 a.2.2.1 b.2.1)), ((fsub .f32 (fmul .f32 a.2.2.1 b.1) (fmul .f32 a.1 b.2.2.1)), ((fsub .f32 (fmul .f32 a.1 b.2.1) (fmul .f32 a.2.1 b.1)), ())))

def t_i_InnerOfTurns (a : dTurn) (b : dTurn) : Nat :=
  (fadd .f32 (fadd .f32 (fadd .f32 (fmul .f32 a.1 b.1) (fmul .f32 a.2.1 b.2.1)) (fmul .f32 a.2.2.1 b.2.2.1)) (fmul .f32 a.2.2.2.1 b.2.2.2.1))

def t_i_InverseOf (t : dTurn) : dTurn :=
  (t.1, ((fneg .f32 t.2.1), ((fneg .f32 t.2.2.1), ((fneg .f32 t.2.2.2.1), ()))))

def t_i_MulTurns (a : dTurn) (b : dTurn) : dTurn :=
  ((fsub .f32 (fsub .f32 (fsub .f32 (fmul .f32 a.1 b.1) (fmul .f32 a.2.1 b.2.1)) (fmul .f32 a.2.2.1 b.2.2.1)) (fmul .f32 a.2.2.2.1 b.2.2.2.1)), ((fsub .f32 (fadd .f32 (fadd .f32 (fmul .f32 a.1 b.2.1) (fmul .f32 a.2.1 b.1)) (fmul .f32 a.2.2.1 b.2.2.2.1)) (fmul .f32 a.2.2.2.1 b.2.2.1)), ((fadd .f32 (fadd .f32 (fsub .f32 (fmul .f32 a.1 b.2.2.1) (fmul .f32 a.2.1 b.2.2.2.1)) (fmul .f32 a.2.2.1 b.1)) (fmul .f32 a.2.2.2.1 b.2.1)), ((fadd .f32 (fsub .f32 (fadd .f32 (fmul .f32 a.1 b.2.2.2.1) (fmul .f32 a.2.1 b.2.2.1)) (fmul .f32 a.2.2.1 b.2.1)) (fmul .f32 a.2.2.2.1 b.1)), ()))))

end
end Go.Fw
