/- What the functions compute, as plain Lean functions. No condition. -/
import Derived.Test.YtalhiopcegnobaaGenTypes
set_option linter.unusedVariables false
namespace Go.Fw
noncomputable section
def g_w_sameFloat (a : Nat) (b : Nat) : Option (Bool) :=
  bif (!(feq .f64 a a)) then
    bif (!(feq .f64 a a)) then
      some (!(feq .f64 b b))
    else
      some false
  else
    bif (!(feq .f64 b b)) then
      bif (!(feq .f64 a a)) then
        some (!(feq .f64 b b))
      else
        some false
    else
      bif (feq .f64 a 0) then
        bif (feq .f64 b 0) then
          some ((fgt .f64 (fdiv .f64 4607182418800017408 a) 0) == (fgt .f64 (fdiv .f64 4607182418800017408 b) 0))
        else
          some (feq .f64 a b)
      else
        some (feq .f64 a b)

def t_w_sameFloat (a : Nat) (b : Nat) : Bool :=
  bif (!(feq .f64 a a)) then
    bif (!(feq .f64 a a)) then
      (!(feq .f64 b b))
    else
      false
  else
    bif (!(feq .f64 b b)) then
      bif (!(feq .f64 a a)) then
        (!(feq .f64 b b))
      else
        false
    else
      bif (feq .f64 a 0) then
        bif (feq .f64 b 0) then
          ((fgt .f64 (fdiv .f64 4607182418800017408 a) 0) == (fgt .f64 (fdiv .f64 4607182418800017408 b) 0))
        else
          (feq .f64 a b)
      else
        (feq .f64 a b)

theorem q_w_sameFloat (a : Nat) (b : Nat) : g_w_sameFloat a b = some (t_w_sameFloat a b) := by
  unfold g_w_sameFloat t_w_sameFloat; simp only [bif_some_some]


def L_w_eqFloat32S_1 (rec' : ((List Nat) × (List Nat) × Bool × Int × Unit) × (Unit) → Option (Bool × ((Bool × Unit) × (Unit)))) (x : ((List Nat) × (List Nat) × Bool × Int × Unit) × (Unit)) : Option (Bool × ((Bool × Unit) × (Unit))) := match x with
  | ((a, b, t4, i, ()), (())) =>
    bif (ilt i (((List.length a) : Nat) : Int)) then
      Option.bind (ix i (List.length a)) fun j1 =>
      Option.bind (ix i (List.length b)) fun j2 =>
      bif (!(t_w_sameFloat (fwide (List.getD a j1 (0 : Nat))) (fwide (List.getD b j2 (0 : Nat))))) then
        some (true, ((false, ()), ()))
      else
        rec' ((a, (b, (t4, ((iadd .i64 i 1), ())))), ())
    else
      some (false, ((t4, ()), ()))

def g_w_eqFloat32S (a : (List Nat)) (b : (List Nat)) : Option (Bool) :=
  bif (!(ieq (((List.length a) : Nat) : Int) (((List.length b) : Nat) : Int))) then
    some false
  else
    Option.bind (iter L_w_eqFloat32S_1 fuel ((a, (b, (false, (0, ())))), ())) fun y1 =>
    bif y1.1 then
      some y1.2.1.1
    else
      some true


def g_s_l00In (n : Int) (low : Int) (high : Int) : Option (Bool) :=
  bif (ile low n) then
    some (ile n high)
  else
    some false

def t_s_l00In (n : Int) (low : Int) (high : Int) : Bool :=
  bif (ile low n) then
    (ile n high)
  else
    false

theorem q_s_l00In (n : Int) (low : Int) (high : Int) : g_s_l00In n low high = some (t_s_l00In n low high) := by
  unfold g_s_l00In t_s_l00In; simp only [bif_some_some]


def L_w_markFloat32S_1 (rec' : (Int × Int × Unit) × ((List Nat) × Unit) → Option ((Int × Unit) × ((List Nat) × Unit))) (x : (Int × Int × Unit) × ((List Nat) × Unit)) : Option ((Int × Unit) × ((List Nat) × Unit)) := match x with
  | ((k, i, ()), (r0, ())) =>
    bif (ilt i (((List.length r0) : Nat) : Int)) then
      Option.bind (ix i (List.length r0)) fun j1 =>
      rec' (((iadd .i64 k 1), ((iadd .i64 i 1), ())), ((List.set r0 j1 (fofInt .f32 k)), ()))
    else
      some ((k, ()), (r0, ()))

def g_w_markFloat32S (a : (List Nat)) (k : Int) : Option (Int × ((List Nat) × Int × Unit)) :=
  Option.bind (iter L_w_markFloat32S_1 fuel ((k, (0, ())), (a, ()))) fun y1 =>
  some (y1.1.1, (y1.2.1, (k, ())))


def L_w_heldFloat32S_1 (rec' : ((List Nat) × Int × Int × Int × Unit) × (Unit) → Option (Bool × ((Int × Int × Unit) × (Unit)))) (x : ((List Nat) × Int × Int × Int × Unit) × (Unit)) : Option (Bool × ((Int × Int × Unit) × (Unit))) := match x with
  | ((a, k, t4, i, ()), (())) =>
    bif (ilt i (((List.length a) : Nat) : Int)) then
      Option.bind (ix i (List.length a)) fun j1 =>
      bif (!(feq .f32 (List.getD a j1 (0 : Nat)) (fofInt .f32 k))) then
        some (true, ((k, ((-1), ())), ()))
      else
        rec' ((a, ((iadd .i64 k 1), (t4, ((iadd .i64 i 1), ())))), ())
    else
      some (false, ((k, (t4, ())), ()))

def g_w_heldFloat32S (a : (List Nat)) (k : Int) : Option (Int) :=
  Option.bind (iter L_w_heldFloat32S_1 fuel ((a, (k, (0, (0, ())))), ())) fun y1 =>
  bif y1.1 then
    some y1.2.1.2.1
  else
    some y1.2.1.1


def g_s_l01Narrow (xx : Nat) : Option (Nat) :=
  Option.bind (fconv .f64 .f32 xx) fun y1 =>
  some y1


def g_s_l01Bits (xx : Nat) : Option (Int) :=
  bif (!(feq .f32 xx xx)) then
    some 2143289344
  else
    Option.bind (g_float32bits xx) fun y1 =>
    some (iconv .i64 y1)


end
end Go.Fw
