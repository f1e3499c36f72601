/- What the functions compute, as plain Lean functions. No condition. -/
import Derived.Test.YthmpjkfccbchfaaGenTypes
set_option linter.unusedVariables false
namespace Go.Fw
noncomputable section
def g_s_l01Finite (xx : Nat) : Option (Bool) :=
  some (feq .f32 (fsub .f32 xx xx) 0)

def t_s_l01Finite (xx : Nat) : Bool :=
  (feq .f32 (fsub .f32 xx xx) 0)

theorem q_s_l01Finite (xx : Nat) : g_s_l01Finite xx = some (t_s_l01Finite xx) := rfl


def g_i_IsFinite (xx : Nat) : Option (Bool) :=
  some (feq .f32 (fsub .f32 xx xx) 0)

def t_i_IsFinite (xx : Nat) : Bool :=
  (feq .f32 (fsub .f32 xx xx) 0)

theorem q_i_IsFinite (xx : Nat) : g_i_IsFinite xx = some (t_i_IsFinite xx) := rfl


def g_s_l01Add (a : dVec) (b : dVec) : Option (dVec) :=
  some ((fadd .f32 a.1 b.1), ((fadd .f32 a.2.1 b.2.1), ((fadd .f32 a.2.2.1 b.2.2.1), ())))

def t_s_l01Add (a : dVec) (b : dVec) : dVec :=
  ((fadd .f32 a.1 b.1), ((fadd .f32 a.2.1 b.2.1), ((fadd .f32 a.2.2.1 b.2.2.1), ())))

theorem q_s_l01Add (a : dVec) (b : dVec) : g_s_l01Add a b = some (t_s_l01Add a b) := rfl


def g_s_l01Scale (v : dVec) (byx : Nat) : Option (dVec) :=
  some ((fmul .f32 v.1 byx), ((fmul .f32 v.2.1 byx), ((fmul .f32 v.2.2.1 byx), ())))

def t_s_l01Scale (v : dVec) (byx : Nat) : dVec :=
  ((fmul .f32 v.1 byx), ((fmul .f32 v.2.1 byx), ((fmul .f32 v.2.2.1 byx), ())))

theorem q_s_l01Scale (v : dVec) (byx : Nat) : g_s_l01Scale v byx = some (t_s_l01Scale v byx) := rfl


def g_i_AddVectors (a : dVec) (b : dVec) : Option (dVec) :=
  some ((fadd .f32 a.1 b.1), ((fadd .f32 a.2.1 b.2.1), ((fadd .f32 a.2.2.1 b.2.2.1), ())))

def t_i_AddVectors (a : dVec) (b : dVec) : dVec :=
  ((fadd .f32 a.1 b.1), ((fadd .f32 a.2.1 b.2.1), ((fadd .f32 a.2.2.1 b.2.2.1), ())))

theorem q_i_AddVectors (a : dVec) (b : dVec) : g_i_AddVectors a b = some (t_i_AddVectors a b) := rfl


def g_i_ScaleVector (v : dVec) (byx : Nat) : Option (dVec) :=
  some ((fmul .f32 v.1 byx), ((fmul .f32 v.2.1 byx), ((fmul .f32 v.2.2.1 byx), ())))

def t_i_ScaleVector (v : dVec) (byx : Nat) : dVec :=
  ((fmul .f32 v.1 byx), ((fmul .f32 v.2.1 byx), ((fmul .f32 v.2.2.1 byx), ())))

theorem q_i_ScaleVector (v : dVec) (byx : Nat) : g_i_ScaleVector v byx = some (t_i_ScaleVector v byx) := rfl


def g_s_l01Less (a : dVec) (b : dVec) : Option (dVec) :=
  some ((fsub .f32 a.1 b.1), ((fsub .f32 a.2.1 b.2.1), ((fsub .f32 a.2.2.1 b.2.2.1), ())))

def t_s_l01Less (a : dVec) (b : dVec) : dVec :=
  ((fsub .f32 a.1 b.1), ((fsub .f32 a.2.1 b.2.1), ((fsub .f32 a.2.2.1 b.2.2.1), ())))

theorem q_s_l01Less (a : dVec) (b : dVec) : g_s_l01Less a b = some (t_s_l01Less a b) := rfl


def g_s_l01Inner (a : dVec) (b : dVec) : Option (Nat) :=
  some (fadd .f32 (fadd .f32 (fmul .f32 a.1 b.1) (fmul .f32 a.2.1 b.2.1)) (fmul .f32 a.2.2.1 b.2.2.1))

def t_s_l01Inner (a : dVec) (b : dVec) : Nat :=
  (fadd .f32 (fadd .f32 (fmul .f32 a.1 b.1) (fmul .f32 a.2.1 b.2.1)) (fmul .f32 a.2.2.1 b.2.2.1))

theorem q_s_l01Inner (a : dVec) (b : dVec) : g_s_l01Inner a b = some (t_s_l01Inner a b) := rfl


def g_math_Sqrt (xx : Nat) : Option (Nat) :=
  some (t_mathsqrt xx)

def t_math_Sqrt (xx : Nat) : Nat :=
  (t_mathsqrt xx)

theorem q_math_Sqrt (xx : Nat) : g_math_Sqrt xx = some (t_math_Sqrt xx) := rfl


def g_s_l01Narrow (xx : Nat) : Option (Nat) :=
  Option.bind (fconv .f64 .f32 xx) fun y1 =>
  some y1


def g_s_l01Sqrt (xx : Nat) : Option (Nat) :=
  Option.bind (g_s_l01Narrow (t_math_Sqrt (fwide xx))) fun y1 =>
  some y1


def g_s_l01Long (v : dVec) : Option (Nat) :=
  Option.bind (g_s_l01Sqrt (t_s_l01Inner v v)) fun y1 =>
  some y1


def g_i_LessVectors (a : dVec) (b : dVec) : Option (dVec) :=
  some ((fsub .f32 a.1 b.1), ((fsub .f32 a.2.1 b.2.1), ((fsub .f32 a.2.2.1 b.2.2.1), ())))

def t_i_LessVectors (a : dVec) (b : dVec) : dVec :=
  ((fsub .f32 a.1 b.1), ((fsub .f32 a.2.1 b.2.1), ((fsub .f32 a.2.2.1 b.2.2.1), ())))

theorem q_i_LessVectors (a : dVec) (b : dVec) : g_i_LessVectors a b = some (t_i_LessVectors a b) := rfl


def g_i_InnerOf (a : dVec) (b : dVec) : Option (Nat) :=
  some (fadd .f32 (fadd .f32 (fmul .f32 a.1 b.1) (fmul .f32 a.2.1 b.2.1)) (fmul .f32 a.2.2.1 b.2.2.1))

def t_i_InnerOf (a : dVec) (b : dVec) : Nat :=
  (fadd .f32 (fadd .f32 (fmul .f32 a.1 b.1) (fmul .f32 a.2.1 b.2.1)) (fmul .f32 a.2.2.1 b.2.2.1))

theorem q_i_InnerOf (a : dVec) (b : dVec) : g_i_InnerOf a b = some (t_i_InnerOf a b) := rfl


def g_i_RootNumber (xx : Nat) : Option (Nat) :=
  Option.bind (fconv .f64 .f32 (t_math_Sqrt (fwide xx))) fun y1 =>
  some y1


def g_i_LongOf (v : dVec) : Option (Nat) :=
  Option.bind (g_i_RootNumber (t_i_InnerOf v v)) fun y1 =>
  some y1


end
end Go.Fw
