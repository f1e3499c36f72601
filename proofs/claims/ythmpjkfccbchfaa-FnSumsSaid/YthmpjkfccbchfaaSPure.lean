/- What the functions compute, as plain Lean functions. No condition. -/
import Derived.Test.YthmpjkfccbchfaaAPure
set_option linter.unusedVariables false
namespace Go.Fw
noncomputable section
def g_s_l01From (n : Int) : Option (Nat) :=
  some (t_float32frombits (iconv .u32 n))

def t_s_l01From (n : Int) : Nat :=
  (t_float32frombits (iconv .u32 n))

theorem q_s_l01From (n : Int) : g_s_l01From n = some (t_s_l01From n) := rfl


def g_s_l00From (code : (List Int)) : Option (dSrc × ((List Int) × Unit)) :=
  some ((code, (0, (0, ()))), (code, ()))

def t_s_l00From (code : (List Int)) : dSrc × ((List Int) × Unit) :=
  ((code, (0, (0, ()))), (code, ()))

theorem q_s_l00From (code : (List Int)) : g_s_l00From code = some (t_s_l00From code) := rfl


def g_s_l00Src_next (s : dSrc) : Option (Int × (dSrc × Unit)) :=
  let e1 := (ile (iadd .i64 s.2.1 1) (((List.length s.1) : Nat) : Int))
  let e2 := (iadd .u64 (iadd .u64 (imul .u64 s.2.2.1 6364136223846793005) 0) 1442695040888963407)
  let e3 := ((s.1, ((iadd .i64 s.2.1 1), (e2, ()))), ())
  bif (ilt s.2.1 (((List.length s.1) : Nat) : Int)) then
    Option.bind (ix s.2.1 (List.length s.1)) fun j4 =>
    let e5 := (iadd .u64 (iadd .u64 (imul .u64 s.2.2.1 6364136223846793005) (iconv .u64 (iconv .i64 (List.getD s.1 j4 (0 : Int))))) 1442695040888963407)
    let e6 := ((s.1, ((iadd .i64 s.2.1 1), (e5, ()))), ())
    bif e1 then
      some ((iconv .i64 (List.getD s.1 j4 (0 : Int))), e6)
    else
      some ((iconv .i64 (iand .u64 (ishr .u64 e5 40) 255)), e6)
  else
    bif e1 then
      some (0, e3)
    else
      some ((iconv .i64 (iand .u64 (ishr .u64 e2 40) 255)), e3)


def g_s_l00Src_pick (s : dSrc) (n : Int) : Option (Int × (dSrc × Int × Unit)) :=
  bif (ile n 1) then
    some (0, (s, (n, ())))
  else
    Option.bind (g_s_l00Src_next s) fun y1 =>
    bif (ilt 200 n) then
      Option.bind (g_s_l00Src_next y1.2.1) fun y2 =>
      bif (nz n) then
        some ((irem .i64 (iadd .i64 (imul .i64 y1.1 256) y2.1) n), (y2.2.1, (n, ())))
      else
        none
    else
      bif (nz n) then
        some ((irem .i64 y1.1 n), (y1.2.1, (n, ())))
      else
        none


def g_s_l00Src_one (s : dSrc) (n : Int) : Option (Bool × (dSrc × Int × Unit)) :=
  Option.bind (g_s_l00Src_pick s n) fun y1 =>
  some ((ieq y1.1 0), (y1.2.1, (n, ())))


def g_s_l01DrawPlain (s : dSrc) : Option (Nat × (dSrc × Unit)) :=
  Option.bind (g_s_l00Src_pick s 129) fun y1 =>
  Option.bind (g_s_l00Src_one y1.2.1 4) fun y2 =>
  bif y2.1 then
    some ((fdiv .f32 (fofInt .f32 (isub .i64 y1.1 64)) 1088421888), (y2.2.1, ()))
  else
    some ((fdiv .f32 (fofInt .f32 (isub .i64 y1.1 64)) 1098907648), (y2.2.1, ()))


def g_s_l00Src_among (s : dSrc) (list : (List Int)) : Option (Int × (dSrc × (List Int) × Unit)) :=
  Option.bind (g_s_l00Src_pick s (((List.length list) : Nat) : Int)) fun y1 =>
  Option.bind (ix y1.1 (List.length list)) fun j2 =>
  some ((List.getD list j2 (0 : Int)), (y1.2.1, (list, ())))


def g_s_l01DrawFloat (s : dSrc) : Option (Nat × (dSrc × Unit)) :=
  Option.bind (g_s_l00Src_one s 12) fun y1 =>
  bif (!y1.1) then
    Option.bind (g_s_l01DrawPlain y1.2.1) fun y2 =>
    some y2
  else
    Option.bind (g_s_l00Src_pick y1.2.1 4) fun y3 =>
    bif (ieq y3.1 0) then
      Option.bind (g_s_l00Src_among y3.2.1 [0, 2147483648, 2139095040, 4286578688, 2143289344, 1, 2139095039, 8388608, 8388607, 2147483649]) fun y4 =>
      some ((t_s_l01From y4.1), (y4.2.1, ()))
    else
      bif (ieq y3.1 1) then
        Option.bind (g_s_l00Src_pick y3.2.1 65536) fun y5 =>
        Option.bind (g_s_l00Src_pick y5.2.1 65536) fun y6 =>
        some ((t_s_l01From (iadd .i64 (imul .i64 y5.1 65536) y6.1)), (y6.2.1, ()))
      else
        bif (ieq y3.1 2) then
          Option.bind (g_s_l00Src_pick y3.2.1 65536) fun y7 =>
          some ((t_s_l01From (imul .i64 y7.1 65536)), (y7.2.1, ()))
        else
          Option.bind (g_s_l01DrawPlain y3.2.1) fun y8 =>
          Option.bind (g_s_l00Src_among y8.2.1 [8388608, 2130706432, 1610612736, 536870912]) fun y9 =>
          some ((fmul .f32 y8.1 (t_s_l01From y9.1)), (y9.2.1, ()))


def L_s_l01DrawFloats_1 (rec' : (Int × Bool × Unit) × (dSrc × (List Nat) × Unit) → Option ((Unit) × (dSrc × (List Nat) × Unit))) (x : (Int × Bool × Unit) × (dSrc × (List Nat) × Unit)) : Option ((Unit) × (dSrc × (List Nat) × Unit)) := match x with
  | ((n, strange, ()), (s0, r1, ())) =>
    bif (ilt 0 n) then
      bif strange then
        Option.bind (g_s_l01DrawFloat s0) fun y1 =>
        bif (Nat.ble ((List.length r1) + 1) 4294967296) then
          rec' (((isub .i64 n 1), (strange, ())), (y1.2.1, ((r1 ++ [y1.1]), ())))
        else
          none
      else
        Option.bind (g_s_l01DrawPlain s0) fun y2 =>
        bif (Nat.ble ((List.length r1) + 1) 4294967296) then
          rec' (((isub .i64 n 1), (strange, ())), (y2.2.1, ((r1 ++ [y2.1]), ())))
        else
          none
    else
      some ((), (s0, (r1, ())))

def g_s_l01DrawFloats (s : dSrc) (n : Int) : Option ((List Nat) × (dSrc × Int × Unit)) :=
  Option.bind (g_s_l00Src_one s 4) fun y1 =>
  Option.bind (iter L_s_l01DrawFloats_1 fuel ((n, (y1.1, ())), (y1.2.1, ([], ())))) fun y2 =>
  some (y2.2.2.1, (y2.2.1, (n, ())))


end
end Go.Fw
