/- What the functions compute, as plain Lean functions. No condition. -/
import Derived.Test.YtobcfldhacdpiaaGreatAPure
set_option linter.unusedVariables false
namespace Go.Fw
noncomputable section
def L_s_l00Put_1 (rec' : ((List Int) × Int × Bool × Int × Unit) × ((List Int) × Unit) → Option ((Int × Bool × Unit) × ((List Int) × Unit))) (x : ((List Int) × Int × Bool × Int × Unit) × ((List Int) × Unit)) : Option ((Int × Bool × Unit) × ((List Int) × Unit)) := match x with
  | ((list, n, done, i, ()), (r0, ())) =>
    let e1 := (list, (n, (true, ((iadd .i64 i 1), ()))))
    let e2 := (list, (n, (done, ((iadd .i64 i 1), ()))))
    bif (ilt i (((List.length list) : Nat) : Int)) then
      bif (!done) then
        Option.bind (ix i (List.length list)) fun j3 =>
        bif (ile n (List.getD list j3 (0 : Int))) then
          Option.bind (ix i (List.length list)) fun j4 =>
          bif (ilt n (List.getD list j4 (0 : Int))) then
            bif (Nat.ble ((List.length r0) + 1) 4294967296) then
              Option.bind (ix i (List.length list)) fun j5 =>
              bif (Nat.ble ((List.length (r0 ++ [n])) + 1) 4294967296) then
                rec' (e1, (((r0 ++ [n]) ++ [(List.getD list j5 (0 : Int))]), ()))
              else
                none
            else
              none
          else
            Option.bind (ix i (List.length list)) fun j6 =>
            bif (Nat.ble ((List.length r0) + 1) 4294967296) then
              rec' (e1, ((r0 ++ [(List.getD list j6 (0 : Int))]), ()))
            else
              none
        else
          Option.bind (ix i (List.length list)) fun j7 =>
          bif (Nat.ble ((List.length r0) + 1) 4294967296) then
            rec' (e2, ((r0 ++ [(List.getD list j7 (0 : Int))]), ()))
          else
            none
      else
        Option.bind (ix i (List.length list)) fun j8 =>
        bif (Nat.ble ((List.length r0) + 1) 4294967296) then
          rec' (e2, ((r0 ++ [(List.getD list j8 (0 : Int))]), ()))
        else
          none
    else
      some ((n, (done, ())), (r0, ()))

def g_s_l00Put (list : (List Int)) (n : Int) : Option ((List Int)) :=
  Option.bind (iter L_s_l00Put_1 fuel ((list, (n, (false, (0, ())))), ([], ()))) fun y1 =>
  bif (!y1.1.2.1) then
    bif (Nat.ble ((List.length y1.2.1) + 1) 4294967296) then
      some (y1.2.1 ++ [y1.1.1])
    else
      none
  else
    some y1.2.1


end
end Go.Fw
