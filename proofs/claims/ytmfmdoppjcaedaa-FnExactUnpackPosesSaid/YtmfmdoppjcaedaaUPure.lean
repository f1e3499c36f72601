/- What the functions compute, as plain Lean functions. No condition. -/
import Derived.Test.YtmfmdoppjcaedaaGenTypes
set_option linter.unusedVariables false
namespace Go.Fw
noncomputable section
def g_w_toPacking (a : dPacking) : Option (dPacking) :=
  some a

def t_w_toPacking (a : dPacking) : dPacking :=
  a

theorem q_w_toPacking (a : dPacking) : g_w_toPacking a = some (t_w_toPacking a) := rfl


def g_s_l00In (n : Int) (low : Int) (high : Int) : Option (Bool) :=
  bif (ile low n) then
    some (ile n high)
  else
    some false

def t_s_l00In (n : Int) (low : Int) (high : Int) : Bool :=
  bif (ile low n) then
    (ile n high)
  else
    false

theorem q_s_l00In (n : Int) (low : Int) (high : Int) : g_s_l00In n low high = some (t_s_l00In n low high) := by
  unfold g_s_l00In t_s_l00In; simp only [bif_some_some]


def g_s_l06Bits (bits : Int) : Option (Bool) :=
  some (t_s_l00In bits 2 16)

def t_s_l06Bits (bits : Int) : Bool :=
  (t_s_l00In bits 2 16)

theorem q_s_l06Bits (bits : Int) : g_s_l06Bits bits = some (t_s_l06Bits bits) := rfl


def g_s_l01Finite (xx : Nat) : Option (Bool) :=
  some (feq .f32 (fsub .f32 xx xx) 0)

def t_s_l01Finite (xx : Nat) : Bool :=
  (feq .f32 (fsub .f32 xx xx) 0)

theorem q_s_l01Finite (xx : Nat) : g_s_l01Finite xx = some (t_s_l01Finite xx) := rfl


def g_s_l06Reach (xx : Nat) : Option (Bool) :=
  bif (t_s_l01Finite xx) then
    some (fgt .f32 xx 0)
  else
    some false

def t_s_l06Reach (xx : Nat) : Bool :=
  bif (t_s_l01Finite xx) then
    (fgt .f32 xx 0)
  else
    false

theorem q_s_l06Reach (xx : Nat) : g_s_l06Reach xx = some (t_s_l06Reach xx) := by
  unfold g_s_l06Reach t_s_l06Reach; simp only [bif_some_some]


def g_s_l06Is (p : dPacking) : Option (Bool) :=
  bif (t_s_l06Bits p.1) then
    bif (t_s_l06Bits p.2.1) then
      some (t_s_l06Reach p.2.2.1)
    else
      some false
  else
    some false

def t_s_l06Is (p : dPacking) : Bool :=
  bif (t_s_l06Bits p.1) then
    bif (t_s_l06Bits p.2.1) then
      (t_s_l06Reach p.2.2.1)
    else
      false
  else
    false

theorem q_s_l06Is (p : dPacking) : g_s_l06Is p = some (t_s_l06Is p) := by
  unfold g_s_l06Is t_s_l06Is; simp only [bif_some_some]


def g_s_l06Count (count : Int) : Option (Bool) :=
  some (t_s_l00In count 1 12)

def t_s_l06Count (count : Int) : Bool :=
  (t_s_l00In count 1 12)

theorem q_s_l06Count (count : Int) : g_s_l06Count count = some (t_s_l06Count count) := rfl


def g_s_l06Size (p : dPacking) (count : Int) : Option (Int) :=
  some (iquo .i64 (iadd .i64 (iadd .i64 (imul .i64 3 p.2.1) (imul .i64 count (iadd .i64 2 (imul .i64 3 p.1)))) 7) 8)

def t_s_l06Size (p : dPacking) (count : Int) : Int :=
  (iquo .i64 (iadd .i64 (iadd .i64 (imul .i64 3 p.2.1) (imul .i64 count (iadd .i64 2 (imul .i64 3 p.1)))) 7) 8)

theorem q_s_l06Size (p : dPacking) (count : Int) : g_s_l06Size p count = some (t_s_l06Size p count) := rfl


def L_s_l06Parts_1 (rec' : (dPacking × Int × Int × Unit) × ((List Int) × Unit) → Option ((Unit) × ((List Int) × Unit))) (x : (dPacking × Int × Int × Unit) × ((List Int) × Unit)) : Option ((Unit) × ((List Int) × Unit)) := match x with
  | ((p, count, i, ()), (r0, ())) =>
    bif (ilt i count) then
      bif (Nat.ble ((List.length r0) + 1) 4294967296) then
        rec' ((p, (count, ((iadd .i64 i 1), ()))), ((r0 ++ [(iadd .i64 2 (imul .i64 3 p.1))]), ()))
      else
        none
    else
      some ((), (r0, ()))

def g_s_l06Parts (p : dPacking) (count : Int) : Option ((List Int)) :=
  Option.bind (iter L_s_l06Parts_1 fuel ((p, (count, (0, ()))), ([(imul .i64 3 p.2.1)], ()))) fun y1 =>
  some y1.2.1


def L_s_l06Bytes_2 (rec' : ((List Int) × (List Int) × Int × Int × Int × Unit) × ((List Int) × Unit) → Option (((List Int) × (List Int) × Int × Int × Unit) × ((List Int) × Unit))) (x : ((List Int) × (List Int) × Int × Int × Int × Unit) × ((List Int) × Unit)) : Option (((List Int) × (List Int) × Int × Int × Unit) × ((List Int) × Unit)) := match x with
  | ((words, sizes, count, i, k, ()), (r0, ())) =>
    let e1 := (ix (isub .i64 (((List.length (r0 ++ [0])) : Nat) : Int) 1) (List.length (r0 ++ [0])))
    let e2 := (words, (sizes, ((iadd .i64 count 1), (i, ((isub .i64 k 1), ())))))
    bif (ile 0 k) then
      bif (ieq (irem .i64 count 8) 0) then
        bif (Nat.ble ((List.length r0) + 1) 4294967296) then
          Option.bind (ix i (List.length words)) fun j3 =>
          bif (nonneg (iconv .u64 k)) then
            bif (ieq (iand .i64 (ishr .i64 (List.getD words j3 (0 : Int)) (iconv .u64 k)) 1) 1) then
              Option.bind e1 fun j4 =>
              bif (nonneg (iconv .u64 (irem .i64 count 8))) then
                Option.bind e1 fun j5 =>
                rec' (e2, ((List.set (r0 ++ [0]) j5 (ior .u8 (List.getD (r0 ++ [0]) j4 (0 : Int)) (ishr .u8 128 (iconv .u64 (irem .i64 count 8))))), ()))
              else
                none
            else
              rec' (e2, ((r0 ++ [0]), ()))
          else
            none
        else
          none
      else
        Option.bind (ix i (List.length words)) fun j6 =>
        bif (nonneg (iconv .u64 k)) then
          bif (ieq (iand .i64 (ishr .i64 (List.getD words j6 (0 : Int)) (iconv .u64 k)) 1) 1) then
            Option.bind (ix (isub .i64 (((List.length r0) : Nat) : Int) 1) (List.length r0)) fun j7 =>
            bif (nonneg (iconv .u64 (irem .i64 count 8))) then
              Option.bind (ix (isub .i64 (((List.length r0) : Nat) : Int) 1) (List.length r0)) fun j8 =>
              rec' (e2, ((List.set r0 j8 (ior .u8 (List.getD r0 j7 (0 : Int)) (ishr .u8 128 (iconv .u64 (irem .i64 count 8))))), ()))
            else
              none
          else
            rec' (e2, (r0, ()))
        else
          none
    else
      some ((words, (sizes, (count, (i, ())))), (r0, ()))

def L_s_l06Bytes_1 (rec' : ((List Int) × (List Int) × Int × Int × Unit) × ((List Int) × Unit) → Option ((Unit) × ((List Int) × Unit))) (x : ((List Int) × (List Int) × Int × Int × Unit) × ((List Int) × Unit)) : Option ((Unit) × ((List Int) × Unit)) := match x with
  | ((words, sizes, count, i, ()), (r0, ())) =>
    bif (ilt i (((List.length words) : Nat) : Int)) then
      Option.bind (ix i (List.length sizes)) fun j1 =>
      Option.bind (iter L_s_l06Bytes_2 fuel ((words, (sizes, (count, (i, ((isub .i64 (List.getD sizes j1 (0 : Int)) 1), ()))))), (r0, ()))) fun y2 =>
      rec' ((y2.1.1, (y2.1.2.1, (y2.1.2.2.1, ((iadd .i64 y2.1.2.2.2.1 1), ())))), (y2.2.1, ()))
    else
      some ((), (r0, ()))

def g_s_l06Bytes (words : (List Int)) (sizes : (List Int)) : Option (ByteArray) :=
  Option.bind (iter L_s_l06Bytes_1 fuel ((words, (sizes, (0, (0, ())))), ([], ()))) fun y1 =>
  some (strOf y1.2.1)


def L_s_l06Words_3 (rec' : (ByteArray × (List Int) × Int × Int × Int × Int × Unit) × ((List Int) × Unit) → Option ((ByteArray × (List Int) × Int × Int × Int × Unit) × ((List Int) × Unit))) (x : (ByteArray × (List Int) × Int × Int × Int × Int × Unit) × ((List Int) × Unit)) : Option ((ByteArray × (List Int) × Int × Int × Int × Unit) × ((List Int) × Unit)) := match x with
  | ((s, sizes, atx, i, word, k, ()), (r0, ())) =>
    Option.bind (ix i (List.length sizes)) fun j1 =>
    bif (ilt k (List.getD sizes j1 (0 : Int))) then
      Option.bind (ix (iquo .i64 atx 8) (ByteArray.size s)) fun j2 =>
      bif (nonneg (iconv .u64 (isub .i64 7 (irem .i64 atx 8)))) then
        rec' ((s, (sizes, ((iadd .i64 atx 1), (i, ((ior .i64 (ishl .i64 word 1) (iconv .i64 (iand .u8 (ishr .u8 (((List.getD s.data.toList j2 0).toNat : Nat) : Int) (iconv .u64 (isub .i64 7 (irem .i64 atx 8)))) 1))), ((iadd .i64 k 1), ())))))), (r0, ()))
      else
        none
    else
      some ((s, (sizes, (atx, (i, (word, ()))))), (r0, ()))

def L_s_l06Words_2 (rec' : (ByteArray × (List Int) × Int × Int × Unit) × ((List Int) × Unit) → Option ((ByteArray × (List Int) × Unit) × ((List Int) × Unit))) (x : (ByteArray × (List Int) × Int × Int × Unit) × ((List Int) × Unit)) : Option ((ByteArray × (List Int) × Unit) × ((List Int) × Unit)) := match x with
  | ((s, sizes, atx, i, ()), (r0, ())) =>
    bif (ilt i (((List.length sizes) : Nat) : Int)) then
      Option.bind (iter L_s_l06Words_3 fuel ((s, (sizes, (atx, (i, (0, (0, ())))))), (r0, ()))) fun y1 =>
      bif (Nat.ble ((List.length y1.2.1) + 1) 4294967296) then
        rec' ((y1.1.1, (y1.1.2.1, (y1.1.2.2.1, ((iadd .i64 y1.1.2.2.2.1 1), ())))), ((y1.2.1 ++ [y1.1.2.2.2.2.1]), ()))
      else
        none
    else
      some ((s, (sizes, ())), (r0, ()))

def L_s_l06Words_1 (rec' : (ByteArray × (List Int) × Int × Int × Unit) × (Unit) → Option ((ByteArray × (List Int) × Int × Unit) × (Unit))) (x : (ByteArray × (List Int) × Int × Int × Unit) × (Unit)) : Option ((ByteArray × (List Int) × Int × Unit) × (Unit)) := match x with
  | ((s, sizes, sum, i, ()), (())) =>
    bif (ilt i (((List.length sizes) : Nat) : Int)) then
      Option.bind (ix i (List.length sizes)) fun j1 =>
      rec' ((s, (sizes, ((iadd .i64 sum (List.getD sizes j1 (0 : Int))), ((iadd .i64 i 1), ())))), ())
    else
      some ((s, (sizes, (sum, ()))), ())

def g_s_l06Words (s : ByteArray) (sizes : (List Int)) : Option (((List Int) × (Bool × Unit))) :=
  Option.bind (iter L_s_l06Words_1 fuel ((s, (sizes, (0, (0, ())))), ())) fun y1 =>
  bif (!(ieq (((ByteArray.size y1.1.1) : Nat) : Int) (iquo .i64 (iadd .i64 y1.1.2.2.1 7) 8))) then
    some ([], (false, ()))
  else
    Option.bind (iter L_s_l06Words_2 fuel ((y1.1.1, (y1.1.2.1, (0, (0, ())))), ([], ()))) fun y2 =>
    Option.bind (g_s_l06Bytes y2.2.1 y2.1.2.1) fun y3 =>
    some (y2.2.1, ((seq y3 y2.1.1), ()))


def g_s_l06Most (bits : Int) : Option (Int) :=
  bif (nonneg (iconv .u64 bits)) then
    some (isub .i64 (ishl .i64 1 (iconv .u64 bits)) 1)
  else
    none


def g_s_l01Narrow (xx : Nat) : Option (Nat) :=
  Option.bind (fconv .f64 .f32 xx) fun y1 =>
  some y1


def g_s_l06Number (code : Int) (low : Nat) (high : Nat) (bits : Int) : Option (Nat) :=
  Option.bind (g_s_l06Most bits) fun y1 =>
  Option.bind (g_s_l01Narrow (fadd .f64 (fwide low) (fmul .f64 (fsub .f64 (fwide high) (fwide low)) (fdiv .f64 (fofInt .f64 code) (fofInt .f64 y1))))) fun y2 =>
  some y2


def g_s_l06OpenVector (word : Int) (reach : Nat) (bits : Int) : Option (dVec) :=
  Option.bind (g_s_l06Most bits) fun y1 =>
  bif (nonneg (iconv .u64 (imul .i64 2 bits))) then
    Option.bind (g_s_l06Number (iand .i64 (ishr .i64 word (iconv .u64 (imul .i64 2 bits))) y1) (fneg .f32 reach) reach bits) fun y2 =>
    bif (nonneg (iconv .u64 bits)) then
      Option.bind (g_s_l06Number (iand .i64 (ishr .i64 word (iconv .u64 bits)) y1) (fneg .f32 reach) reach bits) fun y3 =>
      Option.bind (g_s_l06Number (iand .i64 word y1) (fneg .f32 reach) reach bits) fun y4 =>
      some (y2, (y3, (y4, ())))
    else
      none
  else
    none


def g_math_Sqrt (xx : Nat) : Option (Nat) :=
  some (t_mathsqrt xx)

def t_math_Sqrt (xx : Nat) : Nat :=
  (t_mathsqrt xx)

theorem q_math_Sqrt (xx : Nat) : g_math_Sqrt xx = some (t_math_Sqrt xx) := rfl


def g_s_l01Sqrt (xx : Nat) : Option (Nat) :=
  Option.bind (g_s_l01Narrow (t_math_Sqrt (fwide xx))) fun y1 =>
  some y1


def g_s_l02Inner (a : dTurn) (b : dTurn) : Option (Nat) :=
  some (fadd .f32 (fadd .f32 (fadd .f32 (fmul .f32 a.1 b.1) (fmul .f32 a.2.1 b.2.1)) (fmul .f32 a.2.2.1 b.2.2.1)) (fmul .f32 a.2.2.2.1 b.2.2.2.1))

def t_s_l02Inner (a : dTurn) (b : dTurn) : Nat :=
  (fadd .f32 (fadd .f32 (fadd .f32 (fmul .f32 a.1 b.1) (fmul .f32 a.2.1 b.2.1)) (fmul .f32 a.2.2.1 b.2.2.1)) (fmul .f32 a.2.2.2.1 b.2.2.2.1))

theorem q_s_l02Inner (a : dTurn) (b : dTurn) : g_s_l02Inner a b = some (t_s_l02Inner a b) := rfl


def g_s_l02No  : Option (dTurn) :=
  some (1065353216, (0, (0, (0, ()))))

def t_s_l02No  : dTurn :=
  (1065353216, (0, (0, (0, ()))))

theorem q_s_l02No  : g_s_l02No  = some (t_s_l02No ) := rfl


def g_s_l02Mend (t : dTurn) : Option (dTurn) :=
  Option.bind (g_s_l01Sqrt (t_s_l02Inner t t)) fun y1 =>
  bif (feq .f32 y1 0) then
    some t_s_l02No
  else
    bif (!(t_s_l01Finite y1)) then
      some t_s_l02No
    else
      some ((fdiv .f32 t.1 y1), ((fdiv .f32 t.2.1 y1), ((fdiv .f32 t.2.2.1 y1), ((fdiv .f32 t.2.2.2.1 y1), ()))))


def g_s_l06Unpack (word : Int) (bits : Int) : Option (dTurn) :=
  Option.bind (g_s_l06Most bits) fun y1 =>
  bif (nonneg (iconv .u64 (imul .i64 2 bits))) then
    Option.bind (g_s_l06Number (iand .i64 (ishr .i64 word (iconv .u64 (imul .i64 2 bits))) y1) 3208642560 1061158912 bits) fun y2 =>
    bif (nonneg (iconv .u64 bits)) then
      Option.bind (g_s_l06Number (iand .i64 (ishr .i64 word (iconv .u64 bits)) y1) 3208642560 1061158912 bits) fun y3 =>
      Option.bind (g_s_l06Number (iand .i64 word y1) 3208642560 1061158912 bits) fun y4 =>
      let e5 := (fsub .f32 (fsub .f32 (fsub .f32 1065353216 (fmul .f32 y2 y2)) (fmul .f32 y3 y3)) (fmul .f32 y4 y4))
      bif (!(fgt .f32 e5 0)) then
        Option.bind (g_s_l01Sqrt 0) fun y6 =>
        bif (nonneg (iconv .u64 (imul .i64 3 bits))) then
          bif (ieq (ishr .i64 word (iconv .u64 (imul .i64 3 bits))) 0) then
            Option.bind (g_s_l02Mend (y6, (y2, (y3, (y4, ()))))) fun y7 =>
            some y7
          else
            bif (ieq (ishr .i64 word (iconv .u64 (imul .i64 3 bits))) 1) then
              Option.bind (g_s_l02Mend (y2, (y6, (y3, (y4, ()))))) fun y8 =>
              some y8
            else
              bif (ieq (ishr .i64 word (iconv .u64 (imul .i64 3 bits))) 2) then
                Option.bind (g_s_l02Mend (y2, (y3, (y6, (y4, ()))))) fun y9 =>
                some y9
              else
                Option.bind (g_s_l02Mend (y2, (y3, (y4, (y6, ()))))) fun y10 =>
                some y10
        else
          none
      else
        Option.bind (g_s_l01Sqrt e5) fun y11 =>
        bif (nonneg (iconv .u64 (imul .i64 3 bits))) then
          bif (ieq (ishr .i64 word (iconv .u64 (imul .i64 3 bits))) 0) then
            Option.bind (g_s_l02Mend (y11, (y2, (y3, (y4, ()))))) fun y12 =>
            some y12
          else
            bif (ieq (ishr .i64 word (iconv .u64 (imul .i64 3 bits))) 1) then
              Option.bind (g_s_l02Mend (y2, (y11, (y3, (y4, ()))))) fun y13 =>
              some y13
            else
              bif (ieq (ishr .i64 word (iconv .u64 (imul .i64 3 bits))) 2) then
                Option.bind (g_s_l02Mend (y2, (y3, (y11, (y4, ()))))) fun y14 =>
                some y14
              else
                Option.bind (g_s_l02Mend (y2, (y3, (y4, (y11, ()))))) fun y15 =>
                some y15
        else
          none
    else
      none
  else
    none


def L_s_l06Open_1 (rec' : (dPacking × Int × Unit) × ((dVec × Unit) × (List Int) × (List dTurn) × (dVec × Unit) × Unit) → Option ((Unit) × ((dVec × Unit) × (List dTurn) × (dVec × Unit) × Unit))) (x : (dPacking × Int × Unit) × ((dVec × Unit) × (List Int) × (List dTurn) × (dVec × Unit) × Unit)) : Option ((Unit) × ((dVec × Unit) × (List dTurn) × (dVec × Unit) × Unit)) := match x with
  | ((p, i, ()), ((b0, ()), r2, r3, (b4, ()), ())) =>
    bif (ilt i (((List.length r2) : Nat) : Int)) then
      Option.bind (ix i (List.length r2)) fun j1 =>
      Option.bind (g_s_l06Unpack (List.getD r2 j1 (0 : Int)) p.1) fun y2 =>
      bif (Nat.ble ((List.length r3) + 1) 4294967296) then
        rec' ((p, ((iadd .i64 i 1), ())), ((b0, ()), (r2, ((r3 ++ [y2]), ((b4, ()), ())))))
      else
        none
    else
      some ((), ((b0, ()), (r3, ((b4, ()), ()))))

def g_s_l06Open (p : dPacking) (count : Int) (s : ByteArray) : Option ((dPose × (Bool × Unit))) :=
  Option.bind (g_s_l06Parts p count) fun y1 =>
  Option.bind (g_s_l06Words s y1) fun y2 =>
  bif (!y2.2.1) then
    some (((0, (0, (0, ()))), (([] : List dTurn), ())), (false, ()))
  else
    Option.bind (ix 0 (List.length y2.1)) fun j3 =>
    Option.bind (g_s_l06OpenVector (List.getD y2.1 j3 (0 : Int)) p.2.2.1 p.2.1) fun y4 =>
    Option.bind (iter L_s_l06Open_1 fuel ((p, (1, ())), (((0, (0, (0, ()))), ()), (y2.1, ([], ((y4, ()), ())))))) fun y5 =>
    some ((y5.2.2.2.1.1, (y5.2.2.1, ())), (true, ()))


def L_s_UnpackPoses_1 (rec' : (Int × ByteArray × Bool × Int × Int × Unit) × ((dPacking × Unit) × (List dPose) × Unit) → Option (Bool × ((Bool × Unit) × ((List dPose) × Unit)))) (x : (Int × ByteArray × Bool × Int × Int × Unit) × ((dPacking × Unit) × (List dPose) × Unit)) : Option (Bool × ((Bool × Unit) × ((List dPose) × Unit))) := match x with
  | ((count, s, t7, size, atx, ()), ((b0, ()), r1, ())) =>
    bif (ilt atx (((ByteArray.size s) : Nat) : Int)) then
      bif ((decide ((0 : Int) ≤ (iadd .i64 atx size))) && (decide (((iadd .i64 atx size) : Int) ≤ (((ByteArray.size s) : Nat) : Int)))) then
        bif ((decide ((0 : Int) ≤ atx)) && (decide ((atx : Int) ≤ (iadd .i64 atx size)))) then
          Option.bind (g_s_l06Open b0 count (ByteArray.extract s (Int.toNat atx) (Int.toNat (iadd .i64 atx size)))) fun y1 =>
          bif (!y1.2.1) then
            some (true, ((false, ()), (r1, ())))
          else
            bif (Nat.ble ((List.length r1) + (List.length (([] : List dPose) ++ [y1.1]))) 4294967296) then
              rec' ((count, (s, (t7, (size, ((iadd .i64 atx size), ()))))), ((b0, ()), ((r1 ++ (([] : List dPose) ++ [y1.1])), ())))
            else
              none
        else
          none
      else
        none
    else
      some (false, ((t7, ()), (r1, ())))

def g_s_UnpackPoses (p : dPacking) (count : Int) (s : ByteArray) : Option (((List dPose) × (Bool × Unit))) :=
  bif (!(t_s_l06Is p)) then
    some (([] : List dPose), (false, ()))
  else
    bif (!(t_s_l06Count count)) then
      some (([] : List dPose), (false, ()))
    else
      bif (ilt 4096 (((ByteArray.size s) : Nat) : Int)) then
        some (([] : List dPose), (false, ()))
      else
        bif (nz (t_s_l06Size p count)) then
          bif (!(ieq (irem .i64 (((ByteArray.size s) : Nat) : Int) (t_s_l06Size p count)) 0)) then
            some (([] : List dPose), (false, ()))
          else
            Option.bind (iter L_s_UnpackPoses_1 fuel ((count, (s, (false, ((t_s_l06Size p count), (0, ()))))), ((p, ()), ((([] : List dPose) ++ []), ())))) fun y1 =>
            bif y1.1 then
              some (([] : List dPose), (y1.2.1.1, ()))
            else
              some (y1.2.2.1, (true, ()))
        else
          none


def g_i_areBits (bits : Int) : Option (Bool) :=
  bif (ile 2 bits) then
    some (ile bits 16)
  else
    some false

def t_i_areBits (bits : Int) : Bool :=
  bif (ile 2 bits) then
    (ile bits 16)
  else
    false

theorem q_i_areBits (bits : Int) : g_i_areBits bits = some (t_i_areBits bits) := by
  unfold g_i_areBits t_i_areBits; simp only [bif_some_some]


def g_i_IsFinite (xx : Nat) : Option (Bool) :=
  some (feq .f32 (fsub .f32 xx xx) 0)

def t_i_IsFinite (xx : Nat) : Bool :=
  (feq .f32 (fsub .f32 xx xx) 0)

theorem q_i_IsFinite (xx : Nat) : g_i_IsFinite xx = some (t_i_IsFinite xx) := rfl


def g_i_isPositive (xx : Nat) : Option (Bool) :=
  bif (t_i_IsFinite xx) then
    some (fgt .f32 xx 0)
  else
    some false

def t_i_isPositive (xx : Nat) : Bool :=
  bif (t_i_IsFinite xx) then
    (fgt .f32 xx 0)
  else
    false

theorem q_i_isPositive (xx : Nat) : g_i_isPositive xx = some (t_i_isPositive xx) := by
  unfold g_i_isPositive t_i_isPositive; simp only [bif_some_some]


def g_i_ValidPacking (p : dPacking) : Option (Bool) :=
  bif (t_i_areBits p.1) then
    bif (t_i_areBits p.2.1) then
      some (t_i_isPositive p.2.2.1)
    else
      some false
  else
    some false

def t_i_ValidPacking (p : dPacking) : Bool :=
  bif (t_i_areBits p.1) then
    bif (t_i_areBits p.2.1) then
      (t_i_isPositive p.2.2.1)
    else
      false
  else
    false

theorem q_i_ValidPacking (p : dPacking) : g_i_ValidPacking p = some (t_i_ValidPacking p) := by
  unfold g_i_ValidPacking t_i_ValidPacking; simp only [bif_some_some]


def g_i_isCount (count : Int) : Option (Bool) :=
  bif (ile 1 count) then
    some (ile count 12)
  else
    some false

def t_i_isCount (count : Int) : Bool :=
  bif (ile 1 count) then
    (ile count 12)
  else
    false

theorem q_i_isCount (count : Int) : g_i_isCount count = some (t_i_isCount count) := by
  unfold g_i_isCount t_i_isCount; simp only [bif_some_some]


def g_i_PackedSize (p : dPacking) (count : Int) : Option ((Int × (Bool × Unit))) :=
  bif (!(t_i_ValidPacking p)) then
    some (0, (false, ()))
  else
    bif (!(t_i_isCount count)) then
      some (0, (false, ()))
    else
      some ((iquo .i64 (iadd .i64 (iadd .i64 (imul .i64 3 p.2.1) (imul .i64 count (iadd .i64 2 (imul .i64 3 p.1)))) 7) 8), (true, ()))

def t_i_PackedSize (p : dPacking) (count : Int) : (Int × (Bool × Unit)) :=
  bif (!(t_i_ValidPacking p)) then
    (0, (false, ()))
  else
    bif (!(t_i_isCount count)) then
      (0, (false, ()))
    else
      ((iquo .i64 (iadd .i64 (iadd .i64 (imul .i64 3 p.2.1) (imul .i64 count (iadd .i64 2 (imul .i64 3 p.1)))) 7) 8), (true, ()))

theorem q_i_PackedSize (p : dPacking) (count : Int) : g_i_PackedSize p count = some (t_i_PackedSize p count) := by
  unfold g_i_PackedSize t_i_PackedSize; simp only [bif_some_some]


def L_i_Packing_sizes_1 (rec' : (Int × Int × Unit) × ((dPacking × Unit) × (List Int) × Unit) → Option ((Unit) × ((List Int) × Unit))) (x : (Int × Int × Unit) × ((dPacking × Unit) × (List Int) × Unit)) : Option ((Unit) × ((List Int) × Unit)) := match x with
  | ((t10, t11, ()), ((b0, ()), r1, ())) =>
    bif (ilt t11 t10) then
      bif (Nat.ble ((List.length r1) + 1) 4294967296) then
        rec' ((t10, ((iadd .i64 t11 1), ())), ((b0, ()), ((r1 ++ [(iadd .i64 2 (imul .i64 3 b0.1))]), ())))
      else
        none
    else
      some ((), (r1, ()))

def g_i_Packing_sizes (p : dPacking) (count : Int) : Option ((List Int)) :=
  Option.bind (iter L_i_Packing_sizes_1 fuel ((count, (0, ())), ((p, ()), ([(imul .i64 3 p.2.1)], ())))) fun y1 =>
  some y1.2.1


def L_i_areSizes_1 (rec' : ((List Int) × Bool × (List Int) × Int × Int × Unit) × (Unit) → Option (Bool × (((List Int) × Bool × Unit) × (Unit)))) (x : ((List Int) × Bool × (List Int) × Int × Int × Unit) × (Unit)) : Option (Bool × (((List Int) × Bool × Unit) × (Unit))) := match x with
  | ((sizes, t2, t5, t6, t7, ()), (())) =>
    let e1 := (true, ((sizes, (false, ())), ()))
    bif (ilt t7 t6) then
      Option.bind (ix t7 (List.length t5)) fun j2 =>
      bif (ilt (List.getD t5 j2 (0 : Int)) 1) then
        some e1
      else
        bif (ilt 62 (List.getD t5 j2 (0 : Int))) then
          some e1
        else
          rec' ((sizes, (t2, (t5, (t6, ((iadd .i64 t7 1), ()))))), ())
    else
      some (false, ((sizes, (t2, ())), ()))

def g_i_areSizes (sizes : (List Int)) : Option (Bool) :=
  Option.bind (iter L_i_areSizes_1 fuel ((sizes, (false, (sizes, ((((List.length sizes) : Nat) : Int), (0, ()))))), ())) fun y1 =>
  bif y1.1 then
    some y1.2.1.2.1
  else
    some (ile (((List.length y1.2.1.1) : Nat) : Int) 512)


def L_i_BytesOfWords_2 (rec' : ((List Int) × ByteArray × Bool × Int × Int × Int × (List Int) × Int × Int × Int × (List Int) × Int × Int × Int × Int × Bool × Unit) × ((List Int) × Unit) → Option (((List Int) × ByteArray × Bool × Int × (List Int) × Int × Int × Int × (List Int) × Int × Int × Int × Int × Bool × Unit) × ((List Int) × Unit))) (x : ((List Int) × ByteArray × Bool × Int × Int × Int × (List Int) × Int × Int × Int × (List Int) × Int × Int × Int × Int × Bool × Unit) × ((List Int) × Unit)) : Option (((List Int) × ByteArray × Bool × Int × (List Int) × Int × Int × Int × (List Int) × Int × Int × Int × Int × Bool × Unit) × ((List Int) × Unit)) := match x with
  | ((sizes, t4, t5, bits, w, b, t21, t22, t23, t31, t32, t33, t34, t35, t36, t37, ()), (r0, ())) =>
    let e1 := (ix (iquo .i64 bits 8) (List.length (r0 ++ [0])))
    let e2 := (ishl .u8 (iconv .u8 (iand .i64 (ishr .i64 w b) 1)) (isub .i64 7 (irem .i64 bits 8)))
    let e3 := (t21, (t22, (t23, (t31, (t32, (t33, (t34, (t35, (t36, (t37, ()))))))))))
    let e4 := (sizes, (t4, (t5, ((iadd .i64 bits 1), (w, ((isub .i64 b 1), e3))))))
    bif (ile 0 b) then
      bif (ieq (irem .i64 bits 8) 0) then
        bif (Nat.ble ((List.length r0) + 1) 4294967296) then
          Option.bind e1 fun j5 =>
          bif (nonneg b) then
            bif (nonneg (isub .i64 7 (irem .i64 bits 8))) then
              Option.bind e1 fun j6 =>
              rec' (e4, ((List.set (r0 ++ [0]) j6 (ior .u8 (List.getD (r0 ++ [0]) j5 (0 : Int)) e2)), ()))
            else
              none
          else
            none
        else
          none
      else
        Option.bind (ix (iquo .i64 bits 8) (List.length r0)) fun j7 =>
        bif (nonneg b) then
          bif (nonneg (isub .i64 7 (irem .i64 bits 8))) then
            Option.bind (ix (iquo .i64 bits 8) (List.length r0)) fun j8 =>
            rec' (e4, ((List.set r0 j8 (ior .u8 (List.getD r0 j7 (0 : Int)) e2)), ()))
          else
            none
        else
          none
    else
      some ((sizes, (t4, (t5, (bits, e3)))), (r0, ()))

def L_i_BytesOfWords_1 (rec' : ((List Int) × ByteArray × Bool × Int × (List Int) × Int × Int × Unit) × ((List Int) × Unit) → Option (Bool × ((ByteArray × Bool × Unit) × ((List Int) × Unit)))) (x : ((List Int) × ByteArray × Bool × Int × (List Int) × Int × Int × Unit) × ((List Int) × Unit)) : Option (Bool × ((ByteArray × Bool × Unit) × ((List Int) × Unit))) := match x with
  | ((sizes, t4, t5, bits, t21, t22, t23, ()), (r0, ())) =>
    let e1 := (true, (((ByteArray.mk #[]), (false, ())), (r0, ())))
    bif (ilt t23 t22) then
      Option.bind (ix t23 (List.length t21)) fun j2 =>
      bif (ilt (List.getD t21 j2 (0 : Int)) 0) then
        some e1
      else
        Option.bind (ix t23 (List.length sizes)) fun j3 =>
        let e4 := (ile (ishl .i64 1 (List.getD sizes j3 (0 : Int))) (List.getD t21 j2 (0 : Int)))
        bif (nonneg (List.getD sizes j3 (0 : Int))) then
          bif e4 then
            some e1
          else
            Option.bind (ix t23 (List.length sizes)) fun j5 =>
            Option.bind (iter L_i_BytesOfWords_2 fuel ((sizes, (t4, (t5, (bits, ((List.getD t21 j2 (0 : Int)), ((isub .i64 (List.getD sizes j5 (0 : Int)) 1), (t21, (t22, (t23, ((List.getD t21 j2 (0 : Int)), (sizes, (t23, ((List.getD sizes j3 (0 : Int)), ((List.getD sizes j3 (0 : Int)), ((ishl .i64 1 (List.getD sizes j3 (0 : Int))), (e4, ())))))))))))))))), (r0, ()))) fun y6 =>
            rec' ((y6.1.1, (y6.1.2.1, (y6.1.2.2.1, (y6.1.2.2.2.1, (y6.1.2.2.2.2.1, (y6.1.2.2.2.2.2.1, ((iadd .i64 y6.1.2.2.2.2.2.2.1 1), ()))))))), (y6.2.1, ()))
        else
          none
    else
      some (false, ((t4, (t5, ())), (r0, ())))

def g_i_BytesOfWords (words : (List Int)) (sizes : (List Int)) : Option ((ByteArray × (Bool × Unit))) :=
  bif (!(ieq (((List.length words) : Nat) : Int) (((List.length sizes) : Nat) : Int))) then
    some ((ByteArray.mk #[]), (false, ()))
  else
    Option.bind (g_i_areSizes sizes) fun y1 =>
    bif (!y1) then
      some ((ByteArray.mk #[]), (false, ()))
    else
      Option.bind (iter L_i_BytesOfWords_1 fuel ((sizes, ((ByteArray.mk #[]), (false, (0, (words, ((((List.length words) : Nat) : Int), (0, ()))))))), (([] : List Int), ()))) fun y2 =>
      bif y2.1 then
        some (y2.2.1.1, (y2.2.1.2.1, ()))
      else
        some ((strOf y2.2.2.1), (true, ()))


def L_i_WordsOfBytes_3 (rec' : (ByteArray × (List Int) × Int × Int × (List Int) × Int × Int × Int × Int × Unit) × ((List Int) × Unit) → Option ((ByteArray × (List Int) × Int × (List Int) × Int × Int × Unit) × ((List Int) × Unit))) (x : (ByteArray × (List Int) × Int × Int × (List Int) × Int × Int × Int × Int × Unit) × ((List Int) × Unit)) : Option ((ByteArray × (List Int) × Int × (List Int) × Int × Int × Unit) × ((List Int) × Unit)) := match x with
  | ((s, sizes, atx, i, t37, t38, t39, t44, t45, ()), (r0, ())) =>
    bif (ilt t45 t44) then
      Option.bind (ix i (List.length r0)) fun j1 =>
      Option.bind (ix (iquo .i64 atx 8) (ByteArray.size s)) fun j2 =>
      bif (nonneg (isub .i64 7 (irem .i64 atx 8))) then
        Option.bind (ix i (List.length r0)) fun j3 =>
        rec' ((s, (sizes, ((iadd .i64 atx 1), (i, (t37, (t38, (t39, (t44, ((iadd .i64 t45 1), ()))))))))), ((List.set r0 j3 (ior .i64 (ishl .i64 (List.getD r0 j1 (0 : Int)) 1) (iconv .i64 (iand .u8 (ishr .u8 (((List.getD s.data.toList j2 0).toNat : Nat) : Int) (isub .i64 7 (irem .i64 atx 8))) 1)))), ()))
      else
        none
    else
      some ((s, (sizes, (atx, (t37, (t38, (t39, ())))))), (r0, ()))

def L_i_WordsOfBytes_2 (rec' : (ByteArray × (List Int) × Int × (List Int) × Int × Int × Unit) × ((List Int) × Unit) → Option ((ByteArray × (List Int) × Unit) × ((List Int) × Unit))) (x : (ByteArray × (List Int) × Int × (List Int) × Int × Int × Unit) × ((List Int) × Unit)) : Option ((ByteArray × (List Int) × Unit) × ((List Int) × Unit)) := match x with
  | ((s, sizes, atx, t37, t38, t39, ()), (r0, ())) =>
    bif (ilt t39 t38) then
      Option.bind (ix t39 (List.length t37)) fun j1 =>
      Option.bind (iter L_i_WordsOfBytes_3 fuel ((s, (sizes, (atx, (t39, (t37, (t38, (t39, ((List.getD t37 j1 (0 : Int)), (0, ()))))))))), (r0, ()))) fun y2 =>
      rec' ((y2.1.1, (y2.1.2.1, (y2.1.2.2.1, (y2.1.2.2.2.1, (y2.1.2.2.2.2.1, ((iadd .i64 y2.1.2.2.2.2.2.1 1), ())))))), (y2.2.1, ()))
    else
      some ((s, (sizes, ())), (r0, ()))

def L_i_WordsOfBytes_1 (rec' : (ByteArray × (List Int) × Int × (List Int) × Int × Int × Unit) × (Unit) → Option ((ByteArray × (List Int) × Int × Unit) × (Unit))) (x : (ByteArray × (List Int) × Int × (List Int) × Int × Int × Unit) × (Unit)) : Option ((ByteArray × (List Int) × Int × Unit) × (Unit)) := match x with
  | ((s, sizes, all, t18, t19, t20, ()), (())) =>
    bif (ilt t20 t19) then
      Option.bind (ix t20 (List.length t18)) fun j1 =>
      rec' ((s, (sizes, ((iadd .i64 all (List.getD t18 j1 (0 : Int))), (t18, (t19, ((iadd .i64 t20 1), ())))))), ())
    else
      some ((s, (sizes, (all, ()))), ())

def g_i_WordsOfBytes (s : ByteArray) (sizes : (List Int)) : Option (((List Int) × (Bool × Unit))) :=
  Option.bind (g_i_areSizes sizes) fun y1 =>
  bif (!y1) then
    some (([] : List Int), (false, ()))
  else
    Option.bind (iter L_i_WordsOfBytes_1 fuel ((s, (sizes, (0, (sizes, ((((List.length sizes) : Nat) : Int), (0, ())))))), ())) fun y2 =>
    bif (!(ieq (((ByteArray.size y2.1.1) : Nat) : Int) (iquo .i64 (iadd .i64 y2.1.2.2.1 7) 8))) then
      some (([] : List Int), (false, ()))
    else
      bif (mkOk (((List.length y2.1.2.1) : Nat) : Int) (((List.length y2.1.2.1) : Nat) : Int)) then
        Option.bind (iter L_i_WordsOfBytes_2 fuel ((y2.1.1, (y2.1.2.1, (0, (y2.1.2.1, ((((List.length y2.1.2.1) : Nat) : Int), (0, ())))))), ((List.replicate (List.length y2.1.2.1) 0), ()))) fun y3 =>
        Option.bind (g_i_BytesOfWords y3.2.1 y3.1.2.1) fun y4 =>
        bif (!y4.2.1) then
          some (([] : List Int), (false, ()))
        else
          bif (!(seq y4.1 y3.1.1)) then
            some (([] : List Int), (false, ()))
          else
            some (y3.2.1, (true, ()))
      else
        none


def g_i_codes (bits : Int) : Option (Int) :=
  bif (nonneg bits) then
    some (ishl .i64 1 bits)
  else
    none


def g_i_parts (word : Int) (bits : Int) : Option ((Int × ((Int × (Int × (Int × Unit))) × Unit))) :=
  Option.bind (g_i_codes bits) fun y1 =>
  bif (nz y1) then
    Option.bind (g_i_codes bits) fun y2 =>
    bif (nz y2) then
      Option.bind (g_i_codes bits) fun y3 =>
      bif (nz y3) then
        Option.bind (g_i_codes bits) fun y4 =>
        bif (nz y4) then
          Option.bind (g_i_codes bits) fun y5 =>
          bif (nz y5) then
            Option.bind (g_i_codes bits) fun y6 =>
            bif (nz y6) then
              some ((iquo .i64 (iquo .i64 (iquo .i64 word y2) y4) y6), (((irem .i64 (iquo .i64 (iquo .i64 word y2) y4) y5), ((irem .i64 (iquo .i64 word y2) y3), ((irem .i64 word y1), ()))), ()))
            else
              none
          else
            none
        else
          none
      else
        none
    else
      none
  else
    none


def g_i_numberOf (code : Int) (low : Nat) (high : Nat) (bits : Int) : Option (Nat) :=
  Option.bind (g_i_codes bits) fun y1 =>
  Option.bind (fconv .f64 .f32 (fadd .f64 (fwide low) (fmul .f64 (fsub .f64 (fwide high) (fwide low)) (fdiv .f64 (fofInt .f64 code) (fofInt .f64 (isub .i64 y1 1)))))) fun y2 =>
  some y2


def g_i_UnpackVector (word : Int) (reach : Nat) (bits : Int) : Option ((dVec × (Bool × Unit))) :=
  let e1 := ((0, (0, (0, ()))), (false, ()))
  bif (!(t_i_isPositive reach)) then
    some e1
  else
    bif (!(t_i_areBits bits)) then
      some e1
    else
      bif (ilt word 0) then
        some e1
      else
        Option.bind (g_i_codes (imul .i64 3 bits)) fun y2 =>
        bif (ile y2 word) then
          some e1
        else
          Option.bind (g_i_parts word bits) fun y3 =>
          Option.bind (g_i_numberOf y3.2.1.1 (fneg .f32 reach) reach bits) fun y4 =>
          Option.bind (g_i_numberOf y3.2.1.2.1 (fneg .f32 reach) reach bits) fun y5 =>
          Option.bind (g_i_numberOf y3.2.1.2.2.1 (fneg .f32 reach) reach bits) fun y6 =>
          some ((y4, (y5, (y6, ()))), (true, ()))


def g_i_RootNumber (xx : Nat) : Option (Nat) :=
  Option.bind (fconv .f64 .f32 (t_math_Sqrt (fwide xx))) fun y1 =>
  some y1


def g_i_InnerOfTurns (a : dTurn) (b : dTurn) : Option (Nat) :=
  some (fadd .f32 (fadd .f32 (fadd .f32 (fmul .f32 a.1 b.1) (fmul .f32 a.2.1 b.2.1)) (fmul .f32 a.2.2.1 b.2.2.1)) (fmul .f32 a.2.2.2.1 b.2.2.2.1))

def t_i_InnerOfTurns (a : dTurn) (b : dTurn) : Nat :=
  (fadd .f32 (fadd .f32 (fadd .f32 (fmul .f32 a.1 b.1) (fmul .f32 a.2.1 b.2.1)) (fmul .f32 a.2.2.1 b.2.2.1)) (fmul .f32 a.2.2.2.1 b.2.2.2.1))

theorem q_i_InnerOfTurns (a : dTurn) (b : dTurn) : g_i_InnerOfTurns a b = some (t_i_InnerOfTurns a b) := rfl


def g_i_LengthOfTurn (t : dTurn) : Option (Nat) :=
  Option.bind (g_i_RootNumber (t_i_InnerOfTurns t t)) fun y1 =>
  some y1


def g_i_isLength (n : Nat) : Option (Bool) :=
  bif (t_i_IsFinite n) then
    some (!(feq .f32 n 0))
  else
    some false

def t_i_isLength (n : Nat) : Bool :=
  bif (t_i_IsFinite n) then
    (!(feq .f32 n 0))
  else
    false

theorem q_i_isLength (n : Nat) : g_i_isLength n = some (t_i_isLength n) := by
  unfold g_i_isLength t_i_isLength; simp only [bif_some_some]


def g_i_NoTurn  : Option (dTurn) :=
  some (1065353216, (0, (0, (0, ()))))

def t_i_NoTurn  : dTurn :=
  (1065353216, (0, (0, (0, ()))))

theorem q_i_NoTurn  : g_i_NoTurn  = some (t_i_NoTurn ) := rfl


def g_i_MendTurn (t : dTurn) : Option (dTurn) :=
  Option.bind (g_i_LengthOfTurn t) fun y1 =>
  bif (!(t_i_isLength y1)) then
    some t_i_NoTurn
  else
    some ((fdiv .f32 t.1 y1), ((fdiv .f32 t.2.1 y1), ((fdiv .f32 t.2.2.1 y1), ((fdiv .f32 t.2.2.2.1 y1), ()))))


def g_i_UnpackTurn (word : Int) (bits : Int) : Option ((dTurn × (Bool × Unit))) :=
  let e1 := (0, (0, (0, (0, ()))))
  let e2 := (e1, (false, ()))
  bif (!(t_i_areBits bits)) then
    some e2
  else
    bif (ilt word 0) then
      some e2
    else
      Option.bind (g_i_codes (imul .i64 3 bits)) fun y3 =>
      bif (ile (imul .i64 4 y3) word) then
        some e2
      else
        Option.bind (g_i_parts word bits) fun y4 =>
        let e5 := (g_i_numberOf y4.2.1.2.1 3208642560 1061158912 bits)
        let e6 := (g_i_numberOf y4.2.1.2.2.1 3208642560 1061158912 bits)
        bif (ieq 0 y4.1) then
          bif (ieq 1 y4.1) then
            bif (ieq 2 y4.1) then
              bif (ieq 3 y4.1) then
                bif (fgt .f32 1065353216 0) then
                  Option.bind (g_i_RootNumber 1065353216) fun y7 =>
                  bif (ieq y4.1 0) then
                    Option.bind (g_i_MendTurn (y7, (0, (0, (0, ()))))) fun y8 =>
                    some (y8, (true, ()))
                  else
                    bif (ieq y4.1 1) then
                      Option.bind (g_i_MendTurn (0, (y7, (0, (0, ()))))) fun y9 =>
                      some (y9, (true, ()))
                    else
                      bif (ieq y4.1 2) then
                        Option.bind (g_i_MendTurn (0, (0, (y7, (0, ()))))) fun y10 =>
                        some (y10, (true, ()))
                      else
                        bif (ieq y4.1 3) then
                          Option.bind (g_i_MendTurn (0, (0, (0, (y7, ()))))) fun y11 =>
                          some (y11, (true, ()))
                        else
                          none
                else
                  Option.bind (g_i_MendTurn e1) fun y12 =>
                  some (y12, (true, ()))
              else
                Option.bind (g_i_numberOf y4.2.1.1 3208642560 1061158912 bits) fun y13 =>
                bif (fgt .f32 (fsub .f32 1065353216 (fmul .f32 y13 y13)) 0) then
                  Option.bind (g_i_RootNumber (fsub .f32 1065353216 (fmul .f32 y13 y13))) fun y14 =>
                  bif (ieq y4.1 0) then
                    Option.bind (g_i_MendTurn (y14, (0, (0, (y13, ()))))) fun y15 =>
                    some (y15, (true, ()))
                  else
                    bif (ieq y4.1 1) then
                      Option.bind (g_i_MendTurn (0, (y14, (0, (y13, ()))))) fun y16 =>
                      some (y16, (true, ()))
                    else
                      bif (ieq y4.1 2) then
                        Option.bind (g_i_MendTurn (0, (0, (y14, (y13, ()))))) fun y17 =>
                        some (y17, (true, ()))
                      else
                        bif (ieq y4.1 3) then
                          Option.bind (g_i_MendTurn (0, (0, (0, (y14, ()))))) fun y18 =>
                          some (y18, (true, ()))
                        else
                          none
                else
                  Option.bind (g_i_MendTurn (0, (0, (0, (y13, ()))))) fun y19 =>
                  some (y19, (true, ()))
            else
              Option.bind (g_i_numberOf y4.2.1.1 3208642560 1061158912 bits) fun y20 =>
              bif (ieq 3 y4.1) then
                bif (fgt .f32 (fsub .f32 1065353216 (fmul .f32 y20 y20)) 0) then
                  Option.bind (g_i_RootNumber (fsub .f32 1065353216 (fmul .f32 y20 y20))) fun y21 =>
                  bif (ieq y4.1 0) then
                    Option.bind (g_i_MendTurn (y21, (0, (y20, (0, ()))))) fun y22 =>
                    some (y22, (true, ()))
                  else
                    bif (ieq y4.1 1) then
                      Option.bind (g_i_MendTurn (0, (y21, (y20, (0, ()))))) fun y23 =>
                      some (y23, (true, ()))
                    else
                      bif (ieq y4.1 2) then
                        Option.bind (g_i_MendTurn (0, (0, (y21, (0, ()))))) fun y24 =>
                        some (y24, (true, ()))
                      else
                        bif (ieq y4.1 3) then
                          Option.bind (g_i_MendTurn (0, (0, (y20, (y21, ()))))) fun y25 =>
                          some (y25, (true, ()))
                        else
                          none
                else
                  Option.bind (g_i_MendTurn (0, (0, (y20, (0, ()))))) fun y26 =>
                  some (y26, (true, ()))
              else
                Option.bind e5 fun y27 =>
                let e28 := (fsub .f32 (fsub .f32 1065353216 (fmul .f32 y20 y20)) (fmul .f32 y27 y27))
                bif (fgt .f32 e28 0) then
                  Option.bind (g_i_RootNumber e28) fun y29 =>
                  bif (ieq y4.1 0) then
                    Option.bind (g_i_MendTurn (y29, (0, (y20, (y27, ()))))) fun y30 =>
                    some (y30, (true, ()))
                  else
                    bif (ieq y4.1 1) then
                      Option.bind (g_i_MendTurn (0, (y29, (y20, (y27, ()))))) fun y31 =>
                      some (y31, (true, ()))
                    else
                      bif (ieq y4.1 2) then
                        Option.bind (g_i_MendTurn (0, (0, (y29, (y27, ()))))) fun y32 =>
                        some (y32, (true, ()))
                      else
                        bif (ieq y4.1 3) then
                          Option.bind (g_i_MendTurn (0, (0, (y20, (y29, ()))))) fun y33 =>
                          some (y33, (true, ()))
                        else
                          none
                else
                  Option.bind (g_i_MendTurn (0, (0, (y20, (y27, ()))))) fun y34 =>
                  some (y34, (true, ()))
          else
            Option.bind (g_i_numberOf y4.2.1.1 3208642560 1061158912 bits) fun y35 =>
            bif (ieq 2 y4.1) then
              bif (ieq 3 y4.1) then
                bif (fgt .f32 (fsub .f32 1065353216 (fmul .f32 y35 y35)) 0) then
                  Option.bind (g_i_RootNumber (fsub .f32 1065353216 (fmul .f32 y35 y35))) fun y36 =>
                  bif (ieq y4.1 0) then
                    Option.bind (g_i_MendTurn (y36, (y35, (0, (0, ()))))) fun y37 =>
                    some (y37, (true, ()))
                  else
                    bif (ieq y4.1 1) then
                      Option.bind (g_i_MendTurn (0, (y36, (0, (0, ()))))) fun y38 =>
                      some (y38, (true, ()))
                    else
                      bif (ieq y4.1 2) then
                        Option.bind (g_i_MendTurn (0, (y35, (y36, (0, ()))))) fun y39 =>
                        some (y39, (true, ()))
                      else
                        bif (ieq y4.1 3) then
                          Option.bind (g_i_MendTurn (0, (y35, (0, (y36, ()))))) fun y40 =>
                          some (y40, (true, ()))
                        else
                          none
                else
                  Option.bind (g_i_MendTurn (0, (y35, (0, (0, ()))))) fun y41 =>
                  some (y41, (true, ()))
              else
                Option.bind e5 fun y42 =>
                let e43 := (fsub .f32 (fsub .f32 1065353216 (fmul .f32 y35 y35)) (fmul .f32 y42 y42))
                bif (fgt .f32 e43 0) then
                  Option.bind (g_i_RootNumber e43) fun y44 =>
                  bif (ieq y4.1 0) then
                    Option.bind (g_i_MendTurn (y44, (y35, (0, (y42, ()))))) fun y45 =>
                    some (y45, (true, ()))
                  else
                    bif (ieq y4.1 1) then
                      Option.bind (g_i_MendTurn (0, (y44, (0, (y42, ()))))) fun y46 =>
                      some (y46, (true, ()))
                    else
                      bif (ieq y4.1 2) then
                        Option.bind (g_i_MendTurn (0, (y35, (y44, (y42, ()))))) fun y47 =>
                        some (y47, (true, ()))
                      else
                        bif (ieq y4.1 3) then
                          Option.bind (g_i_MendTurn (0, (y35, (0, (y44, ()))))) fun y48 =>
                          some (y48, (true, ()))
                        else
                          none
                else
                  Option.bind (g_i_MendTurn (0, (y35, (0, (y42, ()))))) fun y49 =>
                  some (y49, (true, ()))
            else
              Option.bind e5 fun y50 =>
              let e51 := (fsub .f32 (fsub .f32 1065353216 (fmul .f32 y35 y35)) (fmul .f32 y50 y50))
              bif (ieq 3 y4.1) then
                bif (fgt .f32 e51 0) then
                  Option.bind (g_i_RootNumber e51) fun y52 =>
                  bif (ieq y4.1 0) then
                    Option.bind (g_i_MendTurn (y52, (y35, (y50, (0, ()))))) fun y53 =>
                    some (y53, (true, ()))
                  else
                    bif (ieq y4.1 1) then
                      Option.bind (g_i_MendTurn (0, (y52, (y50, (0, ()))))) fun y54 =>
                      some (y54, (true, ()))
                    else
                      bif (ieq y4.1 2) then
                        Option.bind (g_i_MendTurn (0, (y35, (y52, (0, ()))))) fun y55 =>
                        some (y55, (true, ()))
                      else
                        bif (ieq y4.1 3) then
                          Option.bind (g_i_MendTurn (0, (y35, (y50, (y52, ()))))) fun y56 =>
                          some (y56, (true, ()))
                        else
                          none
                else
                  Option.bind (g_i_MendTurn (0, (y35, (y50, (0, ()))))) fun y57 =>
                  some (y57, (true, ()))
              else
                Option.bind e6 fun y58 =>
                let e59 := (fsub .f32 e51 (fmul .f32 y58 y58))
                bif (fgt .f32 e59 0) then
                  Option.bind (g_i_RootNumber e59) fun y60 =>
                  bif (ieq y4.1 0) then
                    Option.bind (g_i_MendTurn (y60, (y35, (y50, (y58, ()))))) fun y61 =>
                    some (y61, (true, ()))
                  else
                    bif (ieq y4.1 1) then
                      Option.bind (g_i_MendTurn (0, (y60, (y50, (y58, ()))))) fun y62 =>
                      some (y62, (true, ()))
                    else
                      bif (ieq y4.1 2) then
                        Option.bind (g_i_MendTurn (0, (y35, (y60, (y58, ()))))) fun y63 =>
                        some (y63, (true, ()))
                      else
                        bif (ieq y4.1 3) then
                          Option.bind (g_i_MendTurn (0, (y35, (y50, (y60, ()))))) fun y64 =>
                          some (y64, (true, ()))
                        else
                          none
                else
                  Option.bind (g_i_MendTurn (0, (y35, (y50, (y58, ()))))) fun y65 =>
                  some (y65, (true, ()))
        else
          Option.bind (g_i_numberOf y4.2.1.1 3208642560 1061158912 bits) fun y66 =>
          bif (ieq 1 y4.1) then
            bif (ieq 2 y4.1) then
              bif (ieq 3 y4.1) then
                bif (fgt .f32 (fsub .f32 1065353216 (fmul .f32 y66 y66)) 0) then
                  Option.bind (g_i_RootNumber (fsub .f32 1065353216 (fmul .f32 y66 y66))) fun y67 =>
                  bif (ieq y4.1 0) then
                    Option.bind (g_i_MendTurn (y67, (0, (0, (0, ()))))) fun y68 =>
                    some (y68, (true, ()))
                  else
                    bif (ieq y4.1 1) then
                      Option.bind (g_i_MendTurn (y66, (y67, (0, (0, ()))))) fun y69 =>
                      some (y69, (true, ()))
                    else
                      bif (ieq y4.1 2) then
                        Option.bind (g_i_MendTurn (y66, (0, (y67, (0, ()))))) fun y70 =>
                        some (y70, (true, ()))
                      else
                        bif (ieq y4.1 3) then
                          Option.bind (g_i_MendTurn (y66, (0, (0, (y67, ()))))) fun y71 =>
                          some (y71, (true, ()))
                        else
                          none
                else
                  Option.bind (g_i_MendTurn (y66, (0, (0, (0, ()))))) fun y72 =>
                  some (y72, (true, ()))
              else
                Option.bind e5 fun y73 =>
                let e74 := (fsub .f32 (fsub .f32 1065353216 (fmul .f32 y66 y66)) (fmul .f32 y73 y73))
                bif (fgt .f32 e74 0) then
                  Option.bind (g_i_RootNumber e74) fun y75 =>
                  bif (ieq y4.1 0) then
                    Option.bind (g_i_MendTurn (y75, (0, (0, (y73, ()))))) fun y76 =>
                    some (y76, (true, ()))
                  else
                    bif (ieq y4.1 1) then
                      Option.bind (g_i_MendTurn (y66, (y75, (0, (y73, ()))))) fun y77 =>
                      some (y77, (true, ()))
                    else
                      bif (ieq y4.1 2) then
                        Option.bind (g_i_MendTurn (y66, (0, (y75, (y73, ()))))) fun y78 =>
                        some (y78, (true, ()))
                      else
                        bif (ieq y4.1 3) then
                          Option.bind (g_i_MendTurn (y66, (0, (0, (y75, ()))))) fun y79 =>
                          some (y79, (true, ()))
                        else
                          none
                else
                  Option.bind (g_i_MendTurn (y66, (0, (0, (y73, ()))))) fun y80 =>
                  some (y80, (true, ()))
            else
              Option.bind e5 fun y81 =>
              let e82 := (fsub .f32 (fsub .f32 1065353216 (fmul .f32 y66 y66)) (fmul .f32 y81 y81))
              bif (ieq 3 y4.1) then
                bif (fgt .f32 e82 0) then
                  Option.bind (g_i_RootNumber e82) fun y83 =>
                  bif (ieq y4.1 0) then
                    Option.bind (g_i_MendTurn (y83, (0, (y81, (0, ()))))) fun y84 =>
                    some (y84, (true, ()))
                  else
                    bif (ieq y4.1 1) then
                      Option.bind (g_i_MendTurn (y66, (y83, (y81, (0, ()))))) fun y85 =>
                      some (y85, (true, ()))
                    else
                      bif (ieq y4.1 2) then
                        Option.bind (g_i_MendTurn (y66, (0, (y83, (0, ()))))) fun y86 =>
                        some (y86, (true, ()))
                      else
                        bif (ieq y4.1 3) then
                          Option.bind (g_i_MendTurn (y66, (0, (y81, (y83, ()))))) fun y87 =>
                          some (y87, (true, ()))
                        else
                          none
                else
                  Option.bind (g_i_MendTurn (y66, (0, (y81, (0, ()))))) fun y88 =>
                  some (y88, (true, ()))
              else
                Option.bind e6 fun y89 =>
                let e90 := (fsub .f32 e82 (fmul .f32 y89 y89))
                bif (fgt .f32 e90 0) then
                  Option.bind (g_i_RootNumber e90) fun y91 =>
                  bif (ieq y4.1 0) then
                    Option.bind (g_i_MendTurn (y91, (0, (y81, (y89, ()))))) fun y92 =>
                    some (y92, (true, ()))
                  else
                    bif (ieq y4.1 1) then
                      Option.bind (g_i_MendTurn (y66, (y91, (y81, (y89, ()))))) fun y93 =>
                      some (y93, (true, ()))
                    else
                      bif (ieq y4.1 2) then
                        Option.bind (g_i_MendTurn (y66, (0, (y91, (y89, ()))))) fun y94 =>
                        some (y94, (true, ()))
                      else
                        bif (ieq y4.1 3) then
                          Option.bind (g_i_MendTurn (y66, (0, (y81, (y91, ()))))) fun y95 =>
                          some (y95, (true, ()))
                        else
                          none
                else
                  Option.bind (g_i_MendTurn (y66, (0, (y81, (y89, ()))))) fun y96 =>
                  some (y96, (true, ()))
          else
            Option.bind e5 fun y97 =>
            let e98 := (fsub .f32 (fsub .f32 1065353216 (fmul .f32 y66 y66)) (fmul .f32 y97 y97))
            bif (ieq 2 y4.1) then
              bif (ieq 3 y4.1) then
                bif (fgt .f32 e98 0) then
                  Option.bind (g_i_RootNumber e98) fun y99 =>
                  bif (ieq y4.1 0) then
                    Option.bind (g_i_MendTurn (y99, (y97, (0, (0, ()))))) fun y100 =>
                    some (y100, (true, ()))
                  else
                    bif (ieq y4.1 1) then
                      Option.bind (g_i_MendTurn (y66, (y99, (0, (0, ()))))) fun y101 =>
                      some (y101, (true, ()))
                    else
                      bif (ieq y4.1 2) then
                        Option.bind (g_i_MendTurn (y66, (y97, (y99, (0, ()))))) fun y102 =>
                        some (y102, (true, ()))
                      else
                        bif (ieq y4.1 3) then
                          Option.bind (g_i_MendTurn (y66, (y97, (0, (y99, ()))))) fun y103 =>
                          some (y103, (true, ()))
                        else
                          none
                else
                  Option.bind (g_i_MendTurn (y66, (y97, (0, (0, ()))))) fun y104 =>
                  some (y104, (true, ()))
              else
                Option.bind e6 fun y105 =>
                let e106 := (fsub .f32 e98 (fmul .f32 y105 y105))
                bif (fgt .f32 e106 0) then
                  Option.bind (g_i_RootNumber e106) fun y107 =>
                  bif (ieq y4.1 0) then
                    Option.bind (g_i_MendTurn (y107, (y97, (0, (y105, ()))))) fun y108 =>
                    some (y108, (true, ()))
                  else
                    bif (ieq y4.1 1) then
                      Option.bind (g_i_MendTurn (y66, (y107, (0, (y105, ()))))) fun y109 =>
                      some (y109, (true, ()))
                    else
                      bif (ieq y4.1 2) then
                        Option.bind (g_i_MendTurn (y66, (y97, (y107, (y105, ()))))) fun y110 =>
                        some (y110, (true, ()))
                      else
                        bif (ieq y4.1 3) then
                          Option.bind (g_i_MendTurn (y66, (y97, (0, (y107, ()))))) fun y111 =>
                          some (y111, (true, ()))
                        else
                          none
                else
                  Option.bind (g_i_MendTurn (y66, (y97, (0, (y105, ()))))) fun y112 =>
                  some (y112, (true, ()))
            else
              Option.bind e6 fun y113 =>
              let e114 := (fsub .f32 e98 (fmul .f32 y113 y113))
              bif (ieq 3 y4.1) then
                bif (fgt .f32 e114 0) then
                  Option.bind (g_i_RootNumber e114) fun y115 =>
                  bif (ieq y4.1 0) then
                    Option.bind (g_i_MendTurn (y115, (y97, (y113, (0, ()))))) fun y116 =>
                    some (y116, (true, ()))
                  else
                    bif (ieq y4.1 1) then
                      Option.bind (g_i_MendTurn (y66, (y115, (y113, (0, ()))))) fun y117 =>
                      some (y117, (true, ()))
                    else
                      bif (ieq y4.1 2) then
                        Option.bind (g_i_MendTurn (y66, (y97, (y115, (0, ()))))) fun y118 =>
                        some (y118, (true, ()))
                      else
                        bif (ieq y4.1 3) then
                          Option.bind (g_i_MendTurn (y66, (y97, (y113, (y115, ()))))) fun y119 =>
                          some (y119, (true, ()))
                        else
                          none
                else
                  Option.bind (g_i_MendTurn (y66, (y97, (y113, (0, ()))))) fun y120 =>
                  some (y120, (true, ()))
              else
                none


def L_i_UnpackPose_1 (rec' : (Bool × (Nat × Nat) × Int × Int × Unit) × ((dPacking × Unit) × (dVec × Unit) × (List Int) × (dVec × Unit) × (List dTurn) × Unit) → Option (Bool × ((Bool × Unit) × ((dVec × Unit) × (dVec × Unit) × (List dTurn) × Unit)))) (x : (Bool × (Nat × Nat) × Int × Int × Unit) × ((dPacking × Unit) × (dVec × Unit) × (List Int) × (dVec × Unit) × (List dTurn) × Unit)) : Option (Bool × ((Bool × Unit) × ((dVec × Unit) × (dVec × Unit) × (List dTurn) × Unit))) := match x with
  | ((t7, (t51o, t51l), t52, t53, ()), ((b0, ()), (b1, ()), r3, (b4, ()), r5, ())) =>
    bif (ilt t53 t52) then
      Option.bind (ix t53 t51l) fun j1 =>
      Option.bind (g_i_UnpackTurn (List.getD r3 (t51o + j1) (0 : Int)) b0.1) fun y2 =>
      bif (!y2.2.1) then
        some (true, ((false, ()), (((0, (0, (0, ()))), ()), ((b4, ()), (r5, ())))))
      else
        bif (Nat.ble ((List.length r5) + 1) 4294967296) then
          rec' ((t7, ((t51o, t51l), (t52, ((iadd .i64 t53 1), ())))), ((b0, ()), ((b1, ()), (r3, ((b4, ()), ((r5 ++ [y2.1]), ()))))))
        else
          none
    else
      some (false, ((t7, ()), ((b1, ()), ((b4, ()), (r5, ())))))

def g_i_UnpackPose (p : dPacking) (count : Int) (s : ByteArray) : Option ((dPose × (Bool × Unit))) :=
  let e1 := (((0, (0, (0, ()))), (([] : List dTurn), ())), (false, ()))
  bif (!(t_i_ValidPacking p)) then
    some e1
  else
    bif (!(t_i_isCount count)) then
      some e1
    else
      Option.bind (g_i_Packing_sizes p count) fun y2 =>
      Option.bind (g_i_WordsOfBytes s y2) fun y3 =>
      bif (!y3.2.1) then
        some e1
      else
        Option.bind (ix 0 (List.length y3.1)) fun j4 =>
        Option.bind (g_i_UnpackVector (List.getD y3.1 j4 (0 : Int)) p.2.2.1 p.2.1) fun y5 =>
        bif (!y5.2.1) then
          some e1
        else
          bif (decide ((1 : Int) ≤ (((List.length y3.1) : Nat) : Int))) then
            Option.bind (iter L_i_UnpackPose_1 fuel ((false, ((1, ((List.length y3.1) - 1)), (((((List.length y3.1) - 1) : Nat) : Int), (0, ())))), ((p, ()), (((0, (0, (0, ()))), ()), (y3.1, ((y5.1, ()), (([] : List dTurn), ()))))))) fun y6 =>
            bif y6.1 then
              some ((y6.2.2.1.1, (([] : List dTurn), ())), (y6.2.1.1, ()))
            else
              some ((y6.2.2.2.1.1, (y6.2.2.2.2.1, ())), (true, ()))
          else
            none


def L_i_UnpackPoses_1 (rec' : (Int × ByteArray × Bool × Int × Int × Unit) × ((dPacking × Unit) × (List dPose) × Unit) → Option (Bool × ((Bool × Unit) × ((List dPose) × Unit)))) (x : (Int × ByteArray × Bool × Int × Int × Unit) × ((dPacking × Unit) × (List dPose) × Unit)) : Option (Bool × ((Bool × Unit) × ((List dPose) × Unit))) := match x with
  | ((count, s, t7, n, atx, ()), ((b0, ()), r1, ())) =>
    bif (ilt atx (((ByteArray.size s) : Nat) : Int)) then
      bif ((decide ((0 : Int) ≤ (iadd .i64 atx n))) && (decide (((iadd .i64 atx n) : Int) ≤ (((ByteArray.size s) : Nat) : Int)))) then
        bif ((decide ((0 : Int) ≤ atx)) && (decide ((atx : Int) ≤ (iadd .i64 atx n)))) then
          Option.bind (g_i_UnpackPose b0 count (ByteArray.extract s (Int.toNat atx) (Int.toNat (iadd .i64 atx n)))) fun y1 =>
          bif (!y1.2.1) then
            some (true, ((false, ()), (r1, ())))
          else
            bif (Nat.ble ((List.length r1) + (List.length (([] : List dPose) ++ [y1.1]))) 4294967296) then
              rec' ((count, (s, (t7, (n, ((iadd .i64 atx n), ()))))), ((b0, ()), ((r1 ++ (([] : List dPose) ++ [y1.1])), ())))
            else
              none
        else
          none
      else
        none
    else
      some (false, ((t7, ()), (r1, ())))

def g_i_UnpackPoses (p : dPacking) (count : Int) (s : ByteArray) : Option (((List dPose) × (Bool × Unit))) :=
  bif (!(t_i_PackedSize p count).2.1) then
    some (([] : List dPose), (false, ()))
  else
    bif (ilt 4096 (((ByteArray.size s) : Nat) : Int)) then
      some (([] : List dPose), (false, ()))
    else
      bif (nz (t_i_PackedSize p count).1) then
        bif (!(ieq (irem .i64 (((ByteArray.size s) : Nat) : Int) (t_i_PackedSize p count).1) 0)) then
          some (([] : List dPose), (false, ()))
        else
          Option.bind (iter L_i_UnpackPoses_1 fuel ((count, (s, (false, ((t_i_PackedSize p count).1, (0, ()))))), ((p, ()), (([] : List dPose), ())))) fun y1 =>
          bif y1.1 then
            some (([] : List dPose), (y1.2.1.1, ()))
          else
            some (y1.2.2.1, (true, ()))
      else
        none


def g_w_sameFloat (a : Nat) (b : Nat) : Option (Bool) :=
  bif (!(feq .f64 a a)) then
    bif (!(feq .f64 a a)) then
      some (!(feq .f64 b b))
    else
      some false
  else
    bif (!(feq .f64 b b)) then
      bif (!(feq .f64 a a)) then
        some (!(feq .f64 b b))
      else
        some false
    else
      bif (feq .f64 a 0) then
        bif (feq .f64 b 0) then
          some ((fgt .f64 (fdiv .f64 4607182418800017408 a) 0) == (fgt .f64 (fdiv .f64 4607182418800017408 b) 0))
        else
          some (feq .f64 a b)
      else
        some (feq .f64 a b)

def t_w_sameFloat (a : Nat) (b : Nat) : Bool :=
  bif (!(feq .f64 a a)) then
    bif (!(feq .f64 a a)) then
      (!(feq .f64 b b))
    else
      false
  else
    bif (!(feq .f64 b b)) then
      bif (!(feq .f64 a a)) then
        (!(feq .f64 b b))
      else
        false
    else
      bif (feq .f64 a 0) then
        bif (feq .f64 b 0) then
          ((fgt .f64 (fdiv .f64 4607182418800017408 a) 0) == (fgt .f64 (fdiv .f64 4607182418800017408 b) 0))
        else
          (feq .f64 a b)
      else
        (feq .f64 a b)

theorem q_w_sameFloat (a : Nat) (b : Nat) : g_w_sameFloat a b = some (t_w_sameFloat a b) := by
  unfold g_w_sameFloat t_w_sameFloat; simp only [bif_some_some]


def g_w_eqVector (a : dVec) (b : dVec) : Option (Bool) :=
  bif (!(t_w_sameFloat (fwide a.1) (fwide b.1))) then
    some false
  else
    bif (!(t_w_sameFloat (fwide a.2.1) (fwide b.2.1))) then
      some false
    else
      bif (!(t_w_sameFloat (fwide a.2.2.1) (fwide b.2.2.1))) then
        some false
      else
        some true

def t_w_eqVector (a : dVec) (b : dVec) : Bool :=
  bif (!(t_w_sameFloat (fwide a.1) (fwide b.1))) then
    false
  else
    bif (!(t_w_sameFloat (fwide a.2.1) (fwide b.2.1))) then
      false
    else
      bif (!(t_w_sameFloat (fwide a.2.2.1) (fwide b.2.2.1))) then
        false
      else
        true

theorem q_w_eqVector (a : dVec) (b : dVec) : g_w_eqVector a b = some (t_w_eqVector a b) := by
  unfold g_w_eqVector t_w_eqVector; simp only [bif_some_some]


def g_w_eqTurn (a : dTurn) (b : dTurn) : Option (Bool) :=
  bif (!(t_w_sameFloat (fwide a.1) (fwide b.1))) then
    some false
  else
    bif (!(t_w_sameFloat (fwide a.2.1) (fwide b.2.1))) then
      some false
    else
      bif (!(t_w_sameFloat (fwide a.2.2.1) (fwide b.2.2.1))) then
        some false
      else
        bif (!(t_w_sameFloat (fwide a.2.2.2.1) (fwide b.2.2.2.1))) then
          some false
        else
          some true

def t_w_eqTurn (a : dTurn) (b : dTurn) : Bool :=
  bif (!(t_w_sameFloat (fwide a.1) (fwide b.1))) then
    false
  else
    bif (!(t_w_sameFloat (fwide a.2.1) (fwide b.2.1))) then
      false
    else
      bif (!(t_w_sameFloat (fwide a.2.2.1) (fwide b.2.2.1))) then
        false
      else
        bif (!(t_w_sameFloat (fwide a.2.2.2.1) (fwide b.2.2.2.1))) then
          false
        else
          true

theorem q_w_eqTurn (a : dTurn) (b : dTurn) : g_w_eqTurn a b = some (t_w_eqTurn a b) := by
  unfold g_w_eqTurn t_w_eqTurn; simp only [bif_some_some]


def L_w_eqTurnS_1 (rec' : ((List dTurn) × (List dTurn) × Bool × Int × Unit) × (Unit) → Option (Bool × ((Bool × Unit) × (Unit)))) (x : ((List dTurn) × (List dTurn) × Bool × Int × Unit) × (Unit)) : Option (Bool × ((Bool × Unit) × (Unit))) := match x with
  | ((a, b, t4, i, ()), (())) =>
    bif (ilt i (((List.length a) : Nat) : Int)) then
      Option.bind (ix i (List.length a)) fun j1 =>
      Option.bind (ix i (List.length b)) fun j2 =>
      bif (!(t_w_eqTurn (List.getD a j1 zTurn) (List.getD b j2 zTurn))) then
        some (true, ((false, ()), ()))
      else
        rec' ((a, (b, (t4, ((iadd .i64 i 1), ())))), ())
    else
      some (false, ((t4, ()), ()))

def g_w_eqTurnS (a : (List dTurn)) (b : (List dTurn)) : Option (Bool) :=
  bif (!(ieq (((List.length a) : Nat) : Int) (((List.length b) : Nat) : Int))) then
    some false
  else
    Option.bind (iter L_w_eqTurnS_1 fuel ((a, (b, (false, (0, ())))), ())) fun y1 =>
    bif y1.1 then
      some y1.2.1.1
    else
      some true


def g_w_eqPose (a : dPose) (b : dPose) : Option (Bool) :=
  bif (!(t_w_eqVector a.1 b.1)) then
    some false
  else
    Option.bind (g_w_eqTurnS a.2.1 b.2.1) fun y1 =>
    bif (!y1) then
      some false
    else
      some true


def L_w_eqPoseS_1 (rec' : ((List dPose) × (List dPose) × Bool × Int × Unit) × (Unit) → Option (Bool × ((Bool × Unit) × (Unit)))) (x : ((List dPose) × (List dPose) × Bool × Int × Unit) × (Unit)) : Option (Bool × ((Bool × Unit) × (Unit))) := match x with
  | ((a, b, t4, i, ()), (())) =>
    bif (ilt i (((List.length a) : Nat) : Int)) then
      Option.bind (ix i (List.length a)) fun j1 =>
      Option.bind (ix i (List.length b)) fun j2 =>
      Option.bind (g_w_eqPose (List.getD a j1 zPose) (List.getD b j2 zPose)) fun y3 =>
      bif (!y3) then
        some (true, ((false, ()), ()))
      else
        rec' ((a, (b, (t4, ((iadd .i64 i 1), ())))), ())
    else
      some (false, ((t4, ()), ()))

def g_w_eqPoseS (a : (List dPose)) (b : (List dPose)) : Option (Bool) :=
  bif (!(ieq (((List.length a) : Nat) : Int) (((List.length b) : Nat) : Int))) then
    some false
  else
    Option.bind (iter L_w_eqPoseS_1 fuel ((a, (b, (false, (0, ())))), ())) fun y1 =>
    bif y1.1 then
      some y1.2.1.1
    else
      some true


def L_w_markTurnS_1 (rec' : (Int × Int × Unit) × ((List dTurn) × Unit) → Option ((Int × Unit) × ((List dTurn) × Unit))) (x : (Int × Int × Unit) × ((List dTurn) × Unit)) : Option ((Int × Unit) × ((List dTurn) × Unit)) := match x with
  | ((k, i, ()), (r0, ())) =>
    bif (ilt i (((List.length r0) : Nat) : Int)) then
      Option.bind (ix i (List.length r0)) fun j1 =>
      let e2 := (List.set r0 j1 ((fofInt .f32 k), (List.getD r0 j1 zTurn).2))
      Option.bind (ix i (List.length e2)) fun j3 =>
      let e4 := (List.getD e2 j3 zTurn)
      let e5 := (List.set e2 j3 (e4.1, ((fofInt .f32 (iadd .i64 k 1)), e4.2.2)))
      Option.bind (ix i (List.length e5)) fun j6 =>
      let e7 := (List.getD e5 j6 zTurn)
      let e8 := (List.set e5 j6 (e7.1, (e7.2.1, ((fofInt .f32 (iadd .i64 (iadd .i64 k 1) 1)), e7.2.2.2))))
      Option.bind (ix i (List.length e8)) fun j9 =>
      let e10 := (List.getD e8 j9 zTurn)
      rec' (((iadd .i64 (iadd .i64 (iadd .i64 (iadd .i64 k 1) 1) 1) 1), ((iadd .i64 i 1), ())), ((List.set e8 j9 (e10.1, (e10.2.1, (e10.2.2.1, ((fofInt .f32 (iadd .i64 (iadd .i64 (iadd .i64 k 1) 1) 1)), ()))))), ()))
    else
      some ((k, ()), (r0, ()))

def g_w_markTurnS (a : (List dTurn)) (k : Int) : Option (Int × ((List dTurn) × Int × Unit)) :=
  Option.bind (iter L_w_markTurnS_1 fuel ((k, (0, ())), (a, ()))) fun y1 =>
  some (y1.1.1, (y1.2.1, (k, ())))


def L_w_markPoseS_1 (rec' : (Int × Int × Unit) × ((List dPose) × Unit) → Option ((Int × Unit) × ((List dPose) × Unit))) (x : (Int × Int × Unit) × ((List dPose) × Unit)) : Option ((Int × Unit) × ((List dPose) × Unit)) := match x with
  | ((k, i, ()), (r0, ())) =>
    bif (ilt i (((List.length r0) : Nat) : Int)) then
      Option.bind (ix i (List.length r0)) fun j1 =>
      let e2 := (List.set r0 j1 (((fofInt .f32 k), (List.getD r0 j1 zPose).1.2), (List.getD r0 j1 zPose).2))
      Option.bind (ix i (List.length e2)) fun j3 =>
      let e4 := (List.getD e2 j3 zPose)
      let e5 := (List.set e2 j3 ((e4.1.1, ((fofInt .f32 (iadd .i64 k 1)), e4.1.2.2)), e4.2))
      Option.bind (ix i (List.length e5)) fun j6 =>
      let e7 := (List.getD e5 j6 zPose)
      let e8 := (List.set e5 j6 ((e7.1.1, (e7.1.2.1, ((fofInt .f32 (iadd .i64 (iadd .i64 k 1) 1)), ()))), e7.2))
      Option.bind (ix i (List.length e8)) fun j9 =>
      let e10 := (List.getD e8 j9 zPose)
      Option.bind (g_w_markTurnS e10.2.1 (iadd .i64 (iadd .i64 (iadd .i64 k 1) 1) 1)) fun y11 =>
      rec' ((y11.1, ((iadd .i64 i 1), ())), ((List.set e8 j9 (e10.1, (y11.2.1, ()))), ()))
    else
      some ((k, ()), (r0, ()))

def g_w_markPoseS (a : (List dPose)) (k : Int) : Option (Int × ((List dPose) × Int × Unit)) :=
  Option.bind (iter L_w_markPoseS_1 fuel ((k, (0, ())), (a, ()))) fun y1 =>
  some (y1.1.1, (y1.2.1, (k, ())))


def L_w_heldTurnS_1 (rec' : ((List dTurn) × Int × Int × Int × Unit) × (Unit) → Option (Bool × ((Int × Int × Unit) × (Unit)))) (x : ((List dTurn) × Int × Int × Int × Unit) × (Unit)) : Option (Bool × ((Int × Int × Unit) × (Unit))) := match x with
  | ((a, k, t4, i, ()), (())) =>
    bif (ilt i (((List.length a) : Nat) : Int)) then
      Option.bind (ix i (List.length a)) fun j1 =>
      bif (!(feq .f32 (List.getD a j1 zTurn).1 (fofInt .f32 k))) then
        some (true, ((k, ((-1), ())), ()))
      else
        Option.bind (ix i (List.length a)) fun j2 =>
        bif (!(feq .f32 (List.getD a j2 zTurn).2.1 (fofInt .f32 (iadd .i64 k 1)))) then
          some (true, (((iadd .i64 k 1), ((-1), ())), ()))
        else
          Option.bind (ix i (List.length a)) fun j3 =>
          bif (!(feq .f32 (List.getD a j3 zTurn).2.2.1 (fofInt .f32 (iadd .i64 (iadd .i64 k 1) 1)))) then
            some (true, (((iadd .i64 (iadd .i64 k 1) 1), ((-1), ())), ()))
          else
            Option.bind (ix i (List.length a)) fun j4 =>
            bif (!(feq .f32 (List.getD a j4 zTurn).2.2.2.1 (fofInt .f32 (iadd .i64 (iadd .i64 (iadd .i64 k 1) 1) 1)))) then
              some (true, (((iadd .i64 (iadd .i64 (iadd .i64 k 1) 1) 1), ((-1), ())), ()))
            else
              rec' ((a, ((iadd .i64 (iadd .i64 (iadd .i64 (iadd .i64 k 1) 1) 1) 1), (t4, ((iadd .i64 i 1), ())))), ())
    else
      some (false, ((k, (t4, ())), ()))

def g_w_heldTurnS (a : (List dTurn)) (k : Int) : Option (Int) :=
  Option.bind (iter L_w_heldTurnS_1 fuel ((a, (k, (0, (0, ())))), ())) fun y1 =>
  bif y1.1 then
    some y1.2.1.2.1
  else
    some y1.2.1.1


def L_w_heldPoseS_1 (rec' : ((List dPose) × Int × Int × Int × Unit) × (Unit) → Option (Bool × ((Int × Int × Unit) × (Unit)))) (x : ((List dPose) × Int × Int × Int × Unit) × (Unit)) : Option (Bool × ((Int × Int × Unit) × (Unit))) := match x with
  | ((a, k, t4, i, ()), (())) =>
    bif (ilt i (((List.length a) : Nat) : Int)) then
      Option.bind (ix i (List.length a)) fun j1 =>
      bif (!(feq .f32 (List.getD a j1 zPose).1.1 (fofInt .f32 k))) then
        some (true, ((k, ((-1), ())), ()))
      else
        Option.bind (ix i (List.length a)) fun j2 =>
        bif (!(feq .f32 (List.getD a j2 zPose).1.2.1 (fofInt .f32 (iadd .i64 k 1)))) then
          some (true, (((iadd .i64 k 1), ((-1), ())), ()))
        else
          Option.bind (ix i (List.length a)) fun j3 =>
          bif (!(feq .f32 (List.getD a j3 zPose).1.2.2.1 (fofInt .f32 (iadd .i64 (iadd .i64 k 1) 1)))) then
            some (true, (((iadd .i64 (iadd .i64 k 1) 1), ((-1), ())), ()))
          else
            Option.bind (ix i (List.length a)) fun j4 =>
            Option.bind (g_w_heldTurnS (List.getD a j4 zPose).2.1 (iadd .i64 (iadd .i64 (iadd .i64 k 1) 1) 1)) fun y5 =>
            bif (ilt y5 0) then
              some (true, ((y5, ((-1), ())), ()))
            else
              rec' ((a, (y5, (t4, ((iadd .i64 i 1), ())))), ())
    else
      some (false, ((k, (t4, ())), ()))

def g_w_heldPoseS (a : (List dPose)) (k : Int) : Option (Int) :=
  Option.bind (iter L_w_heldPoseS_1 fuel ((a, (k, (0, (0, ())))), ())) fun y1 =>
  bif y1.1 then
    some y1.2.1.2.1
  else
    some y1.2.1.1


def g_w_FnExactUnpackPoses (aP : dPacking) (aCount : Int) (aS : ByteArray) : Option (Bool) :=
  bif (ilt 1048576 (((ByteArray.size aS) : Nat) : Int)) then
    some true
  else
    Option.bind (g_s_UnpackPoses (t_w_toPacking aP) aCount aS) fun y1 =>
    Option.bind (g_i_UnpackPoses (t_w_toPacking aP) aCount aS) fun y2 =>
    Option.bind (g_w_eqPoseS y2.1 y1.1) fun y3 =>
    bif (!y3) then
      some false
    else
      bif (!(y2.2.1 == y1.2.1)) then
        some false
      else
        Option.bind (g_w_markPoseS y2.1 1) fun y4 =>
        Option.bind (g_w_heldPoseS y4.2.1 1) fun y5 =>
        bif (ilt y5 0) then
          some false
        else
          bif (!(ieq y5 y4.1)) then
            some false
          else
            Option.bind (g_i_UnpackPoses (t_w_toPacking aP) aCount aS) fun y6 =>
            Option.bind (g_w_eqPoseS y6.1 y1.1) fun y7 =>
            bif (!y7) then
              some false
            else
              bif (!(y6.2.1 == y1.2.1)) then
                some false
              else
                Option.bind (g_w_heldPoseS y4.2.1 1) fun y8 =>
                bif (ilt y8 0) then
                  some false
                else
                  bif (!(ieq y8 y4.1)) then
                    some false
                  else
                    some true

end
end Go.Fw
