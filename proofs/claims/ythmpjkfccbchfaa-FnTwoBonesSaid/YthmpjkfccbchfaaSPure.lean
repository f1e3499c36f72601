/- What the functions compute, as plain Lean functions. No condition. -/
import Derived.Test.YthmpjkfccbchfaaAPure
set_option linter.unusedVariables false
namespace Go.Fw
noncomputable section
def g_w_r8Long (code : (List Int)) (more : (List Int)) : Option (Bool) :=
  bif (ilt 48 (((List.length code) : Nat) : Int)) then
    some true
  else
    some (ilt 48 (((List.length more) : Nat) : Int))

def t_w_r8Long (code : (List Int)) (more : (List Int)) : Bool :=
  bif (ilt 48 (((List.length code) : Nat) : Int)) then
    true
  else
    (ilt 48 (((List.length more) : Nat) : Int))

theorem q_w_r8Long (code : (List Int)) (more : (List Int)) : g_w_r8Long code more = some (t_w_r8Long code more) := by
  unfold g_w_r8Long t_w_r8Long; simp only [bif_some_some]


def g_s_l00From (code : (List Int)) : Option (dSrc × ((List Int) × Unit)) :=
  some ((code, (0, (0, ()))), (code, ()))

def t_s_l00From (code : (List Int)) : dSrc × ((List Int) × Unit) :=
  ((code, (0, (0, ()))), (code, ()))

theorem q_s_l00From (code : (List Int)) : g_s_l00From code = some (t_s_l00From code) := rfl


def g_s_l00Src_next (s : dSrc) : Option (Int × (dSrc × Unit)) :=
  let e1 := (ile (iadd .i64 s.2.1 1) (((List.length s.1) : Nat) : Int))
  let e2 := (iadd .u64 (iadd .u64 (imul .u64 s.2.2.1 6364136223846793005) 0) 1442695040888963407)
  let e3 := ((s.1, ((iadd .i64 s.2.1 1), (e2, ()))), ())
  bif (ilt s.2.1 (((List.length s.1) : Nat) : Int)) then
    Option.bind (ix s.2.1 (List.length s.1)) fun j4 =>
    let e5 := (iadd .u64 (iadd .u64 (imul .u64 s.2.2.1 6364136223846793005) (iconv .u64 (iconv .i64 (List.getD s.1 j4 (0 : Int))))) 1442695040888963407)
    let e6 := ((s.1, ((iadd .i64 s.2.1 1), (e5, ()))), ())
    bif e1 then
      some ((iconv .i64 (List.getD s.1 j4 (0 : Int))), e6)
    else
      some ((iconv .i64 (iand .u64 (ishr .u64 e5 40) 255)), e6)
  else
    bif e1 then
      some (0, e3)
    else
      some ((iconv .i64 (iand .u64 (ishr .u64 e2 40) 255)), e3)


def g_s_l00Src_pick (s : dSrc) (n : Int) : Option (Int × (dSrc × Int × Unit)) :=
  bif (ile n 1) then
    some (0, (s, (n, ())))
  else
    Option.bind (g_s_l00Src_next s) fun y1 =>
    bif (ilt 200 n) then
      Option.bind (g_s_l00Src_next y1.2.1) fun y2 =>
      bif (nz n) then
        some ((irem .i64 (iadd .i64 (imul .i64 y1.1 256) y2.1) n), (y2.2.1, (n, ())))
      else
        none
    else
      bif (nz n) then
        some ((irem .i64 y1.1 n), (y1.2.1, (n, ())))
      else
        none


def g_s_l01DrawSmall (s : dSrc) : Option (Nat × (dSrc × Unit)) :=
  Option.bind (g_s_l00Src_pick s 33) fun y1 =>
  some ((fdiv .f32 (fofInt .f32 (isub .i64 y1.1 16)) 1082130432), (y1.2.1, ()))


def g_s_R8Small (code : (List Int)) : Option (dVec) :=
  Option.bind (g_s_l01DrawSmall (t_s_l00From code).1) fun y1 =>
  Option.bind (g_s_l01DrawSmall y1.2.1) fun y2 =>
  Option.bind (g_s_l01DrawSmall y2.2.1) fun y3 =>
  some (y1.1, (y2.1, (y3.1, ())))


def g_w_r8At (code : (List Int)) (k : Int) (n : Int) : Option (Int) :=
  bif (ile n 1) then
    some 0
  else
    bif (ile (((List.length code) : Nat) : Int) k) then
      some 0
    else
      Option.bind (ix k (List.length code)) fun j1 =>
      bif (nz n) then
        some (irem .i64 (iconv .i64 (List.getD code j1 (0 : Int))) n)
      else
        none


def g_w_r8Gap (a : Nat) (b : Nat) : Option (Nat) :=
  some (fmax .f64 (fsub .f64 a b) (fsub .f64 b a))

def t_w_r8Gap (a : Nat) (b : Nat) : Nat :=
  (fmax .f64 (fsub .f64 a b) (fsub .f64 b a))

theorem q_w_r8Gap (a : Nat) (b : Nat) : g_w_r8Gap a b = some (t_w_r8Gap a b) := rfl


end
end Go.Fw
