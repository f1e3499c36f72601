/- The abstract interpreter: what a function's code does on typed data, in the order of the text. It only computes. No condition. -/
import Derived.Test.YtcbpdhhipkdofaaFwData
namespace Go.Fw

inductive Place where
  | box (b off : Nat)
  | elem (b i off : Nat)
  | view (τ : Ty) (x : τ.D) (off : Nat)

inductive Sl where
  | nil
  | row (b : Nat)
  | sub (b off len : Nat)
  | view (τ : Ty) (xs : List τ.D)
  | nest (b i off : Nat) (τ : Ty) (xs : List τ.D)

inductive C where
  | undef
  | int (k : IntKind) (n : Int)
  | bool (b : Bool)
  | flt (k : FloatKind) (x : Nat)
  | str (s : ByteArray)
  | fn (f : FuncId) (caps : List Place)
  | pnil
  | ptr (p : Place)
  | sl (s : Sl)

inductive V1 where
  | one (c : C)
  | agg (cs : List C)

inductive FV where
  | undef
  | v (x : V1)
  | tup (xs : List V1)

inductive Blk where
  | dead
  | box (cs : List C)
  | row (pin : Bool) (τ : Ty) (xs : List τ.D)

structure St where
  n : Nat
  fr : List (Nat × FV)
  loc : List Blk

inductive Ex where
  | normal | ret
  | exit (id : Nat)

/-! types as the interpreter needs them -/
inductive Und where
  | int (k : IntKind) | flt (k : FloatKind) | bool | str
  | slice (e : TypeId) | array (n : Nat) (e : TypeId) | struct (fs : List (Nat × TypeId)) | other

structure TI where
  und : Und
  size : Nat
  bytes : Nat
  zero : List C
  ty : Ty

abbrev Tab := TypeId → Option TI

def Und.agg : Und → Bool
  | .struct _ | .array _ _ => true
  | _ => false

def cst {τ τ' : Ty} (h : τ = τ') (x : τ.D) : τ'.D := h ▸ x
def cstL {τ τ' : Ty} (h : τ = τ') (x : List τ.D) : List τ'.D := h ▸ x

def look : List (Nat × FV) → Nat → FV
  | [], _ => .undef
  | (d, v) :: r, t => bif Nat.beq d t then v else look r t

def rowAt (loc : List Blk) (b : Nat) (e : Ty) : Option (List e.D) :=
  match loc[b]? with
  | some (.row _ τ xs) => if h : τ = e then some (cstL h xs) else none
  | _ => none

/-- Data as cells; slices in them are read alone. -/
def enc : (τ : Ty) → τ.D → List C
  | .int k, n => [.int k n]
  | .bool, b => [.bool b]
  | .flt k, x => [.flt k x]
  | .str, s => [.str s]
  | .unit, _ => []
  | .pair a b, x => enc a x.1 ++ enc b x.2
  | .slice e, xs => [.sl (.view e xs)]
  | .rslice e, xs => [.sl (.view e xs)]
  | .ref e, x => [.ptr (.view e x 0)]
  | .fn f, _ => [.fn f []]

/-- Data that lies in element i of row b. -/
def encN (b i : Nat) : Nat → (τ : Ty) → τ.D → List C
  | _, .int k, n => [.int k n]
  | _, .bool, b => [.bool b]
  | _, .flt k, x => [.flt k x]
  | _, .str, s => [.str s]
  | _, .unit, _ => []
  | off, .pair a c, x => encN b i off a x.1 ++ encN b i (off + a.size) c x.2
  | off, .slice e, xs => [.sl (.nest b i off e xs)]
  | _, .rslice e, xs => [.sl (.view e xs)]
  | _, .ref e, x => [.ptr (.view e x 0)]
  | _, .fn f, _ => [.fn f []]

def slD (loc : List Blk) (e : Ty) : Sl → Option (List e.D)
  | .nil => some []
  | .row b => rowAt loc b e
  | .sub b off len => match rowAt loc b e with
    | some xs => some ((xs.drop off).take len)
    | none => none
  | .view τ xs => if h : τ = e then some (cstL h xs) else none
  | .nest _ _ _ τ xs => if h : τ = e then some (cstL h xs) else none

def cInt (k : IntKind) : List C → Option Int
  | [.int k' n] => if k' = k then some n else none
  | _ => none
def cBool : List C → Option Bool
  | [.bool b] => some b
  | _ => none
def cFlt (k : FloatKind) : List C → Option Nat
  | [.flt k' x] => if k' = k then some x else none
  | _ => none
def cStr : List C → Option ByteArray
  | [.str s] => some s
  | _ => none
def cUnit : List C → Option Unit
  | [] => some ()
  | _ => none
def cSl : List C → Option Sl
  | [.sl s] => some s
  | _ => none

def withNil {α : Type} : Option α → Option (α × List Nat)
  | some x => some (x, [])
  | none => none

def viewOf (e : Ty) : Option Sl → Option (List e.D)
  | some (.view τ xs) => if h : τ = e then some (cstL h xs) else none
  | some .nil => some []
  | _ => none

/-- The cells from a place on. -/
def loadC (loc : List Blk) (n : Nat) : Place → Option (List C)
  | .box b off => match loc[b]? with
    | some (.box cs) => bif Nat.ble (off + n) cs.length then some ((cs.drop off).take n) else none
    | _ => none
  | .elem b i off => match loc[b]? with
    | some (.row _ τ xs) => bif Nat.ble (off + n) τ.size then some (((encN b i 0 τ (xs.getD i τ.zero)).drop off).take n) else none
    | _ => none
  | .view τ x off => bif Nat.ble (off + n) τ.size then some (((enc τ x).drop off).take n) else none

def cPl : List C → Option Place
  | [.ptr p] => some p
  | _ => none
def cFn (f : Nat) : List C → Option Unit
  | [.fn g []] => if g = f then some () else none
  | _ => none
def viewRef (e : Ty) : Option Place → Option e.D
  | some (.view τ x 0) => if h : τ = e then some (cst h x) else none
  | _ => none

/-- Cells as data, read alone. -/
def snapD (loc : List Blk) : (τ : Ty) → List C → Option τ.D
  | .int k, cs => cInt k cs
  | .bool, cs => cBool cs
  | .flt k, cs => cFlt k cs
  | .str, cs => cStr cs
  | .unit, cs => cUnit cs
  | .pair a b, cs => match snapD loc a (cs.take a.size), snapD loc b (cs.drop a.size) with
    | some x, some y => some (x, y)
    | _, _ => none
  | .slice e, cs => match cSl cs with
    | some s => slD loc e s
    | none => none
  | .rslice e, cs => match cSl cs with
    | some s => slD loc e s
    | none => none
  | .ref e, cs => match cPl cs with
    | some p => match loadC loc e.size p with
      | some ds => snapD loc e ds
      | none => none
    | none => none
  | .fn f, cs => cFn f cs

/-- The data of a row that may be handed over. -/
def giveRow (loc : List Blk) (e : Ty) (b : Nat) : Option (List e.D × List Nat) := match loc[b]? with
  | some (.row pin τ xs) => if h : τ = e then bif pin then none else some (cstL h xs, [b]) else none
  | _ => none

def giveSl (loc : List Blk) (e : Ty) : Option Sl → Option (List e.D × List Nat)
  | some .nil => some ([], [])
  | some (.row b) => giveRow loc e b
  | _ => none

/-- Cells as data that is handed over, and the rows that go with it. -/
def ownD (loc : List Blk) : (τ : Ty) → List C → Option (τ.D × List Nat)
  | .int k, cs => withNil (cInt k cs)
  | .bool, cs => withNil (cBool cs)
  | .flt k, cs => withNil (cFlt k cs)
  | .str, cs => withNil (cStr cs)
  | .unit, cs => withNil (cUnit cs)
  | .pair a b, cs => match ownD loc a (cs.take a.size), ownD loc b (cs.drop a.size) with
    | some (x, l), some (y, l') => some ((x, y), l ++ l')
    | _, _ => none
  | .slice e, cs => giveSl loc e (cSl cs)
  | .rslice e, cs => withNil (viewOf e (cSl cs))
  | .ref e, cs => withNil (viewRef e (cPl cs))
  | .fn f, cs => withNil (cFn f cs)

/-- Data becomes cells; its slices become rows, from number n on. -/
def imp (pin : Bool) : Nat → (τ : Ty) → τ.D → List C × List Blk
  | _, .int k, n => ([.int k n], [])
  | _, .bool, b => ([.bool b], [])
  | _, .flt k, x => ([.flt k x], [])
  | _, .str, s => ([.str s], [])
  | _, .unit, _ => ([], [])
  | n, .pair a b, x => match imp pin n a x.1 with
    | (c1, l1) => match imp pin (n + l1.length) b x.2 with
      | (c2, l2) => (c1 ++ c2, l1 ++ l2)
  | n, .slice e, xs => ([.sl (.row n)], [.row pin e xs])
  | _, .rslice e, xs => ([.sl (.view e xs)], [])
  | _, .ref e, x => ([.ptr (.view e x 0)], [])
  | _, .fn f, _ => ([.fn f []], [])

def elemsD (loc : List Blk) (τ : Ty) : Nat → List C → Option (List τ.D × List Nat)
  | 0, [] => some ([], [])
  | n + 1, cs => match ownD loc τ (cs.take τ.size), elemsD loc τ n (cs.drop τ.size) with
    | some (x, l), some (xs, l') => some (x :: xs, l ++ l')
    | _, _ => none
  | _, _ => none

/-- A change of some cells of data without slices in the changed part. -/
def setAt : (τ : Ty) → τ.D → Nat → List C → Option τ.D
  | .pair a b, x, off, cs =>
    bif Nat.beq off 0 && Nat.beq cs.length (a.size + b.size) then
      match ownD [] (.pair a b) cs with
      | some (y, []) => some y
      | _ => none
    else bif Nat.ble (off + cs.length) a.size then
      match setAt a x.1 off cs with
      | some y => some (y, x.2)
      | none => none
    else bif Nat.ble a.size off then
      match setAt b x.2 (off - a.size) cs with
      | some y => some (x.1, y)
      | none => none
    else none
  | τ, _, off, cs =>
    bif Nat.beq off 0 && Nat.beq cs.length τ.size then
      match ownD [] τ cs with
      | some (y, []) => some y
      | _ => none
    else none

def hasSl : Ty → Bool
  | .pair a b => hasSl a || hasSl b
  | .slice _ => true
  | .rslice _ => true
  | .ref _ => true
  | _ => false

/-! forgetting: what pointed into a block that has moved -/
def memB (l : List Nat) (b : Nat) : Bool := match l with
  | [] => false
  | x :: r => Nat.beq x b || memB r b

def Place.hit (ds : List Nat) : Place → Bool
  | .box b _ => memB ds b
  | .elem b _ _ => memB ds b
  | .view _ _ _ => false

/-- ds: blocks that are gone; ns: rows whose elements have changed. -/
def C.kill (ds ns : List Nat) : C → C
  | .fn f caps => bif caps.any (Place.hit ds) then .undef else .fn f caps
  | .ptr p => bif p.hit ds then .undef else .ptr p
  | .sl (.row b) => bif memB ds b then .undef else .sl (.row b)
  | .sl (.sub b o l) => bif memB ds b then .undef else .sl (.sub b o l)
  | .sl (.nest b i o τ xs) => bif memB ds b || memB ns b then .undef else .sl (.nest b i o τ xs)
  | c => c

def V1.kill (ds ns : List Nat) : V1 → V1
  | .one c => .one (c.kill ds ns)
  | .agg cs => .agg (cs.map (C.kill ds ns))

def FV.kill (ds ns : List Nat) : FV → FV
  | .undef => .undef
  | .v x => .v (x.kill ds ns)
  | .tup xs => .tup (xs.map (V1.kill ds ns))

def killFr (ds ns : List Nat) (fr : List (Nat × FV)) : List (Nat × FV) := fr.map fun p => (p.1, p.2.kill ds ns)

def Blk.kill (ds ns : List Nat) : Blk → Blk
  | .box cs => .box (cs.map (C.kill ds ns))
  | b => b

def deadAt (ds : List Nat) : Nat → List Blk → List Blk
  | _, [] => []
  | i, b :: r => (bif memB ds i then .dead else b) :: deadAt ds (i + 1) r

def St.kill (st : St) (ds ns : List Nat) : St :=
  match ds, ns with
  | [], [] => st
  | _, _ => { st with fr := killFr ds ns st.fr, loc := (deadAt ds 0 st.loc).map (Blk.kill ds ns) }

def St.setBlk (st : St) (b : Nat) (k : Blk) : St := { st with loc := st.loc.set b k }

/-! constants -/
def constC : Value → Option C
  | .int k n => bif decide (k.min ≤ n) && decide (n ≤ k.max) then some (.int k n) else none
  | .bool b => some (.bool b)
  | .float k b => bif Nat.blt b (2 ^ k.format.width) then some (.flt k (canon k b)) else none
  | .string s => bif Nat.blt s.size 4294967296 then some (.str s) else none
  | .pointer none => some .pnil
  | .slice none 0 0 => some (.sl .nil)
  | _ => none

def constCs : List Value → Option (List C)
  | [] => some []
  | v :: r => match constC v, constCs r with
    | some c, some cs => some (c :: cs)
    | _, _ => none

def constV : Value → FV
  | .agg cs => match constCs cs.toList with
    | some l => .v (.agg l)
    | none => .undef
  | v => match constC v with
    | some c => .v (.one c)
    | none => .undef

def St.ev (st : St) : Operand → FV
  | .tmp t => look st.fr t
  | .const v => constV v
  | .global _ => .undef
  | .func f => .v (.one (.fn f []))

def FV.cells : FV → Option (List C)
  | .v (.one c) => some [c]
  | .v (.agg cs) => some cs
  | _ => none

def wrapV (ag : Bool) (cs : List C) : FV := match ag with
  | true => .v (.agg cs)
  | false => match cs with
    | [c] => .v (.one c)
    | _ => .undef

/-- An index that must be one of n. -/
def ix (i : Int) (n : Nat) : Option Nat := bif decide (0 ≤ i) && decide (i < (n : Int)) then some i.toNat else none

/-! arithmetic -/
def iadd (k : IntKind) (a b : Int) : Int := k.wrap (a + b)
def isub (k : IntKind) (a b : Int) : Int := k.wrap (a - b)
def imul (k : IntKind) (a b : Int) : Int := k.wrap (a * b)
def iquo (k : IntKind) (a b : Int) : Int := k.wrap (a.tdiv b)
def irem (_k : IntKind) (a b : Int) : Int := a.tmod b
def iand (k : IntKind) (a b : Int) : Int := k.wrap (BitVec.ofInt k.bits a &&& BitVec.ofInt k.bits b).toNat
def ior (k : IntKind) (a b : Int) : Int := k.wrap (BitVec.ofInt k.bits a ||| BitVec.ofInt k.bits b).toNat
def ixor (k : IntKind) (a b : Int) : Int := k.wrap (BitVec.ofInt k.bits a ^^^ BitVec.ofInt k.bits b).toNat
def iandNot (k : IntKind) (a b : Int) : Int := k.wrap (BitVec.ofInt k.bits a &&& ~~~(BitVec.ofInt k.bits b)).toNat
def ishl (k : IntKind) (a b : Int) : Int := k.wrap (a * 2 ^ (min b.toNat k.bits))
def ishr (k : IntKind) (a b : Int) : Int := a.fdiv (2 ^ (min b.toNat k.bits))
def iconv (k : IntKind) (a : Int) : Int := k.wrap a
def nz (b : Int) : Bool := !(b == 0)
def nonneg (b : Int) : Bool := decide (0 ≤ b)
def ilt (a b : Int) : Bool := decide (a < b)
def ile (a b : Int) : Bool := decide (a ≤ b)
def ieq (a b : Int) : Bool := a == b
def seq (a b : ByteArray) : Bool := a.toList == b.toList

section ops
variable {R : Type}

def binInt (op : BinOp) (k : IntKind) (a b : Int) (f : C → Option R) : Option R :=
  match op with
  | .add => f (.int k (iadd k a b))
  | .sub => f (.int k (isub k a b))
  | .mul => f (.int k (imul k a b))
  | .quo => bif nz b then f (.int k (iquo k a b)) else none
  | .rem => bif nz b then f (.int k (irem k a b)) else none
  | .and => f (.int k (iand k a b))
  | .or => f (.int k (ior k a b))
  | .xor => f (.int k (ixor k a b))
  | .andNot => f (.int k (iandNot k a b))
  | .eql => f (.bool (ieq a b))
  | .neq => f (.bool (!ieq a b))
  | .lss => f (.bool (ilt a b))
  | .leq => f (.bool (ile a b))
  | .gtr => f (.bool (ilt b a))
  | .geq => f (.bool (ile b a))
  | _ => none

def binFlt (op : BinOp) (k : FloatKind) (a b : Nat) (f : C → Option R) : Option R :=
  match op with
  | .add => f (.flt k (fadd k a b))
  | .sub => f (.flt k (fsub k a b))
  | .mul => f (.flt k (fmul k a b))
  | .quo => f (.flt k (fdiv k a b))
  | .eql => f (.bool (feq k a b))
  | .neq => f (.bool (!feq k a b))
  | .lss => f (.bool (flt k a b))
  | .leq => f (.bool (fle k a b))
  | .gtr => f (.bool (fgt k a b))
  | .geq => f (.bool (fge k a b))
  | _ => none

def binK (u : Und) (op : BinOp) (x y : C) (f : C → Option R) : Option R :=
  match x, y with
  | .int k a, .int k' b =>
    match op with
    | .shl => bif nonneg b then f (.int k (ishl k a b)) else none
    | .shr => bif nonneg b then f (.int k (ishr k a b)) else none
    | op => if k = k' then binInt op k a b f else none
  | .flt k a, .flt k' b => if k = k' then binFlt op k a b f else none
  | .bool a, .bool b => match u, op with
    | .bool, .eql => f (.bool (a == b))
    | .bool, .neq => f (.bool (!(a == b)))
    | _, _ => none
  | .str a, .str b => match op with
    | .eql => f (.bool (seq a b))
    | .neq => f (.bool (!seq a b))
    | .add => bif Nat.ble (a.size + b.size) 4294967296 then f (.str (a ++ b)) else none
    | _ => none
  | _, _ => none

def unK (op : UnOp) (x : C) (f : C → Option R) : Option R :=
  match op, x with
  | .neg, .int k n => f (.int k (isub k 0 n))
  | .neg, .flt k x => f (.flt k (fneg k x))
  | .not, .bool b => f (.bool (!b))
  | _, _ => none

def convK (s d : Und) (x : C) (f : C → Option R) : Option R :=
  match d, x with
  | .int k, .int _ n => f (.int k (iconv k n))
  | .flt k, .int _ n => f (.flt k (fofInt k n))
  | .int k, .flt s x => (floatToIntVal s x k).bind fun n => f (.int k n)
  | .flt k, .flt s x => if s = k then f (.flt k x) else match s, k with
    | .f32, .f64 => f (.flt .f64 (fwide x))
    | s, k => (fconv s k x).bind fun r => f (.flt k r)
  | .str, .str a => match s with
    | .str => f (.str a)
    | _ => none
  | _, _ => none

end ops

/-! callees -/
inductive PTy where
  | ro (ag : Bool) (τ : Ty)
  | rptr (τ : Ty)
  | fnc (f : FuncId) (caps : List Ty)
  | own (ag : Bool) (τ : Ty)
  | optr (τ : Ty)

@[reducible] def TysD : List Ty → Type
  | [] => Unit
  | τ :: r => τ.D × TysD r

@[reducible] def PTy.D : PTy → Type
  | .ro _ τ => τ.D
  | .rptr τ => τ.D
  | .fnc _ caps => TysD caps
  | .own _ τ => τ.D
  | .optr τ => τ.D

@[reducible] def PD : List PTy → Type
  | [] => Unit
  | p :: r => p.D × PD r

inductive RTy where
  | one (ag : Bool) (τ : Ty)
  | tup (l : List (Bool × Ty))

/-- The results of a function with several, as one type. -/
@[reducible] def tupTy : List (Bool × Ty) → Ty
  | [] => .unit
  | (_, τ) :: r => .pair τ (tupTy r)

@[reducible] def RTy.D : RTy → Type
  | .one _ τ => τ.D
  | .tup l => (tupTy l).D

/-- A callee that leaves its arguments alone. -/
structure FM where
  ps : List PTy
  res : RTy
  run : PD ps → Option res.D

/-- A callee that changes what it is handed. -/
structure FX where
  ps : List PTy
  res : RTy
  run : PD ps → Option (res.D × PD ps)

def capsD (loc : List Blk) : (cs : List Ty) → List Place → Option (TysD cs)
  | [], [] => some ()
  | τ :: r, p :: ps => match loadC loc τ.size p with
    | some cs => match snapD loc τ cs, capsD loc r ps with
      | some x, some y => some (x, y)
      | _, _ => none
    | none => none
  | _, _ => none

def argD (loc : List Blk) : (p : PTy) → FV → Option p.D
  | .ro false τ, .v (.one c) => snapD loc τ [c]
  | .ro true τ, .v (.agg cs) => snapD loc τ cs
  | .rptr τ, .v (.one (.ptr p)) => match loadC loc τ.size p with
    | some cs => snapD loc τ cs
    | none => none
  | .fnc f caps, .v (.one (.fn f' ps)) => if f' = f then capsD loc caps ps else none
  | _, _ => none

def argsD (loc : List Blk) : (ps : List PTy) → List FV → Option (PD ps)
  | [], [] => some ()
  | p :: r, v :: vs => match argD loc p v, argsD loc r vs with
    | some x, some y => some (x, y)
    | _, _ => none
  | _, _ => none

/-- Cells as values, one for each result. -/
def splitV : List (Bool × Ty) → List C → List V1
  | [], _ => []
  | (ag, τ) :: r, cs => (match ag with
    | true => .agg (cs.take τ.size)
    | false => match cs with
      | c :: _ => .one c
      | [] => .agg []) :: splitV r (cs.drop τ.size)

def impR (n : Nat) : (r : RTy) → r.D → FV × List Blk
  | .one ag τ, x => match imp false n τ x with
    | (cs, l) => (wrapV ag cs, l)
  | .tup l, x => match imp false n (tupTy l) x with
    | (cs, bs) => (.tup (splitV l cs), bs)

structure Tabs where
  T : Tab
  pur : FuncId → List FM
  mutf : FuncId → List FX

section op
variable {R : Type} (E : Tabs)

/-- The first model that takes the arguments. -/
def callPure (loc : List Blk) (args : List FV) (f : FV → List Blk → Option R) : List FM → Option R
  | [] => none
  | fm :: r => match argsD loc fm.ps args with
    | some ds => (fm.run ds).bind fun out => match impR loc.length fm.res out with
      | (v, bs) => f v bs
    | none => callPure loc args f r

def evs (st : St) (xs : List Operand) : List FV := xs.map st.ev

/-- The cells of parts laid over others. -/
def putC (cs : List C) (off : Nat) (vs : List C) : List C := cs.take off ++ vs ++ cs.drop (off + vs.length)

def fillC (place : Nat → Option (Nat × Nat)) : List (Nat × List C) → List C → Option (List C)
  | [], cs => some cs
  | (i, v) :: rest, cs => match place i with
    | some (off, size) => bif Nat.beq v.length size && Nat.ble (off + size) cs.length then fillC place rest (putC cs off v) else none
    | none => none

def partsC (st : St) : List (Nat × Operand) → Option (List (Nat × List C))
  | [] => some []
  | (i, x) :: r => match (st.ev x).cells, partsC st r with
    | some cs, some l => some ((i, cs) :: l)
    | _, _ => none

def fieldAtT (s : TypeId) (i : Nat) : Option (Nat × TI) :=
  match E.T s with
  | some { und := .struct fs, .. } => match fs[i]? with
    | some (off, t) => match E.T t with
      | some ti => some (off, ti)
      | none => none
    | none => none
  | _ => none

def placesT : List (Nat × TypeId) → Option (List (Nat × Nat))
  | [] => some []
  | (off, u) :: r => match E.T u, placesT r with
    | some tu, some l => some ((off, tu.size) :: l)
    | _, _ => none

def Place.add (p : Place) (n : Nat) : Place := match p with
  | .box b o => .box b (o + n)
  | .elem b i o => .elem b i (o + n)
  | .view τ x o => .view τ x (o + n)

def Sl.len (loc : List Blk) : Sl → Option Nat
  | .nil => some 0
  | .row b => match loc[b]? with
    | some (.row _ _ xs) => some xs.length
    | _ => none
  | .sub _ _ l => some l
  | .view _ xs => some xs.length
  | .nest _ _ _ _ xs => some xs.length

def Sl.at (sz : Nat) (s : Sl) (loc : List Blk) (i : Nat) : Option Place := match s with
  | .nil => none
  | .row b => match loc[b]? with
    | some (.row _ τ _) => bif Nat.beq τ.size sz then some (.elem b i 0) else none
    | _ => none
  | .sub b o _ => match loc[b]? with
    | some (.row _ τ _) => bif Nat.beq τ.size sz then some (.elem b (o + i) 0) else none
    | _ => none
  | .view τ xs => bif Nat.beq τ.size sz then some (.view τ (xs.getD i τ.zero) 0) else none
  | .nest _ _ _ _ _ => none

def minmaxK (isMax : Bool) : C → C → Option C
  | .int k a, .int k' b => if k = k' then some (.int k (match isMax with | true => max a b | false => min a b)) else none
  | .flt k a, .flt k' b => if k = k' then some (.flt k (match isMax with | true => fmax k a b | false => fmin k a b)) else none
  | _, _ => none

def foldC (f : C → C → Option C) : C → List FV → Option C
  | c, [] => some c
  | c, .v (.one d) :: r => match f c d with
    | some e => foldC f e r
    | none => none
  | _, _ => none

/-- The bounds of a slice expression, cut at the length. -/
def boundsK (len : Nat) (lo hi : Option FV) (f : Nat → Nat → Option R) : Option R :=
  match lo, hi with
  | none, none => f 0 len
  | some (.v (.one (.int _ a))), none => bif decide (0 ≤ a) && decide (a ≤ (len : Int)) then f a.toNat len else none
  | none, some (.v (.one (.int _ b))) => bif decide (0 ≤ b) && decide (b ≤ (len : Int)) then f 0 b.toNat else none
  | some (.v (.one (.int _ a))), some (.v (.one (.int _ b))) =>
    bif decide (0 ≤ b) && decide (b ≤ (len : Int)) then bif decide (0 ≤ a) && decide (a ≤ b) then f a.toNat b.toNat else none else none
  | _, _ => none

/-- The elements have this size. -/
def slSz (loc : List Blk) (sz : Nat) : Sl → Bool
  | .nil => true
  | .row b => match loc[b]? with
    | some (.row _ τ _) => Nat.beq τ.size sz
    | _ => false
  | .sub b _ _ => match loc[b]? with
    | some (.row _ τ _) => Nat.beq τ.size sz
    | _ => false
  | .view τ _ => Nat.beq τ.size sz
  | .nest _ _ _ _ _ => false

def isZero : FV → Bool
  | .v (.one (.int _ (.ofNat 0))) => true
  | _ => false

def sliceK (loc : List Blk) (s : Sl) (lo hi : Option FV) (f : Sl → Option R) : Option R :=
  match s with
  | .nil => boundsK 0 lo hi fun _ _ => f .nil
  | .row b => match Sl.len loc (.row b) with
    | some n => boundsK n lo hi fun l h => f (.sub b l (h - l))
    | none => none
  | .sub b o n => boundsK n lo hi fun l h => f (.sub b (o + l) (h - l))
  | .view τ xs => boundsK xs.length lo hi fun l h => f (.view τ ((xs.take h).drop l))
  | .nest _ _ _ _ _ => none

/-- A length and a capacity that make takes. -/
def mkOk (n m : Int) : Bool := decide (0 ≤ n) && decide (n ≤ m) && decide (m ≤ 4294967296)

/-- Operations that change nothing that was there: their value, and the blocks that they make. -/
def pureK (o : Oper) (st : St) (f : FV → List Blk → Option R) : Option R :=
  match o.op with
  | .move x => f (st.ev x) []
  | .assign x => f (st.ev x) []
  | .pick c a b => match st.ev c with
    | .v (.one (.bool t)) => bif t then f (st.ev a) [] else f (st.ev b) []
    | _ => none
  | .box _ x => match (st.ev x).cells with
    | some cs => f (.v (.one (.ptr (.box st.loc.length 0)))) [.box cs]
    | none => none
  | .alloc t => match E.T t with
    | some ti => f (.v (.one (.ptr (.box st.loc.length 0)))) [.box ti.zero]
    | none => none
  | .build t parts => match E.T t, partsC st parts.toList with
    | some ti, some ps => match ti.und with
      | .struct fs => match placesT E fs with
        | some pl => match fillC (fun i => pl[i]?) ps ti.zero with
          | some cs => f (.v (.agg cs)) []
          | none => none
        | none => none
      | .array _ e => match E.T e with
        | some te => match fillC (fun i => some (i * te.size, te.size)) ps ti.zero with
          | some cs => f (.v (.agg cs)) []
          | none => none
        | none => none
      | _ => none
    | _, _ => none
  | .load t x => match E.T t, st.ev x with
    | some ti, .v (.one (.ptr p)) => match loadC st.loc ti.size p with
      | some cs => bif ti.und.agg || Nat.beq ti.size 1 then f (wrapV ti.und.agg cs) [] else none
      | none => none
    | _, _ => none
  | .nilCheck x => match st.ev x with
    | .v (.one (.ptr p)) => f (.v (.one (.ptr p))) []
    | .v (.one (.fn g caps)) => f (.v (.one (.fn g caps))) []
    | _ => none
  | .binOp op t x y _ => match E.T t, st.ev x, st.ev y with
    | some ti, .v (.one a), .v (.one b) => binK ti.und op a b fun c => f (.v (.one c)) []
    | _, _, _ => none
  | .unOp op _ x => match st.ev x with
    | .v (.one a) => unK op a fun c => f (.v (.one c)) []
    | _ => none
  | .convert s d x => match E.T s, E.T d, st.ev x with
    | some ts, some td, .v (.one a) => convK ts.und td.und a fun c => f (.v (.one c)) []
    | _, _, _ => none
  | .makeFunc (.func g) first captured => match first.toList, evs st captured.toList with
    | [], caps => match places caps with
      | some ps => f (.v (.one (.fn g ps))) []
      | none => none
    | _, _ => none
  | .makeSlice t l c => match E.T t with
    | some { und := .slice e, .. } => match E.T e, st.ev l, st.ev c with
      | some te, .v (.one (.int _ n)), .v (.one (.int _ m)) =>
        match ownD [] te.ty te.zero with
        | some (z, []) => bif Nat.blt te.bytes 32768 && Nat.beq te.ty.size te.size then (bif mkOk n m then
            f (.v (.one (.sl (.row st.loc.length)))) [.row false te.ty (List.replicate n.toNat z)] else none) else none
        | _ => none
      | _, _, _ => none
    | _ => none
  | .slice t x lo hi mx => match mx, st.ev x with
    | none, .v (.one (.sl s)) => match E.T t with
      | some { und := .slice e, .. } => match E.T e with
        | some te => bif slSz st.loc te.size s then sliceK st.loc s (lo.map st.ev) (hi.map st.ev) fun s' => f (.v (.one (.sl s'))) [] else none
        | none => none
      | _ => none
    | none, .v (.one (.str s)) => match E.T t with
      | some { und := .str, .. } => boundsK s.size (lo.map st.ev) (hi.map st.ev) fun l h => f (.v (.one (.str (s.extract l h)))) []
      | _ => none
    | some m, .v (.one (.sl _)) => match E.T t, lo, hi with
      | some { und := .slice e, .. }, none, some h => match E.T e with
        | some _ => bif isZero (st.ev m) && isZero (st.ev h) then f (.v (.one (.sl .nil))) [] else none
        | none => none
      | _, _, _ => none
    | _, _ => none
  | .fieldAddr s x i => match fieldAtT E s i, st.ev x with
    | some (off, ti), .v (.one (.ptr p)) => bif Nat.beq ti.size 0 then none else f (.v (.one (.ptr (p.add off)))) []
    | _, _ => none
  | .field s x i => match fieldAtT E s i, st.ev x with
    | some (off, ti), .v (.agg cs) => bif Nat.ble (off + ti.size) cs.length && (ti.und.agg || Nat.beq ti.size 1) then f (wrapV ti.und.agg ((cs.drop off).take ti.size)) [] else none
    | _, _ => none
  | .indexAddr t x i => match E.T t, st.ev x, st.ev i with
    | some { und := .slice e, .. }, .v (.one (.sl s)), .v (.one (.int _ n)) => match E.T e, s.len st.loc with
      | some te, some len => (ix n len).bind fun j => match s.at te.size st.loc j with
        | some p => f (.v (.one (.ptr p))) []
        | none => none
      | _, _ => none
    | some { und := .array len e, .. }, .v (.one (.ptr p)), .v (.one (.int _ (.ofNat n))) => match E.T e with
      | some te => bif Nat.blt n len then f (.v (.one (.ptr (p.add (n * te.size))))) [] else none
      | none => none
    | _, _, _ => none
  | .index t x i => match E.T t, st.ev x, st.ev i with
    | some { und := .str, .. }, .v (.one (.str s)), .v (.one (.int _ n)) => (ix n s.size).bind fun j => f (.v (.one (.int .u8 (s.data.toList.getD j 0).toNat))) []
    | some { und := .array len e, .. }, .v (.agg cs), .v (.one (.int _ (.ofNat n))) => match E.T e with
      | some te => bif Nat.blt n len && Nat.ble (n * te.size + te.size) cs.length && (te.und.agg || Nat.beq te.size 1) then f (wrapV te.und.agg ((cs.drop (n * te.size)).take te.size)) [] else none
      | none => none
    | _, _, _ => none
  | .extract x i => match st.ev x with
    | .tup xs => match xs[i]? with
      | some v => f (.v v) []
      | none => none
    | _ => none
  | .buildSlice t len parts => match E.T t, partsC st parts.toList with
    | some { und := .slice e, .. }, some ps => match E.T e with
      | some te => match fillC (fun i => some (i * te.size, te.size)) ps (List.replicate len te.zero).flatten with
        | some cs => match elemsD st.loc te.ty len cs with
          | some (xs, []) => bif Nat.ble len 65536 && Nat.ble (len * te.size) 65536 && Nat.beq te.ty.size te.size && Nat.beq te.zero.length te.size then f (.v (.one (.sl (.row st.loc.length)))) [.row false te.ty xs] else none
          | _ => none
        | none => none
      | none => none
    | _, _ => none
  | .call c => match c.callee with
    | .value g => match st.ev g with
      | .v (.one (.fn h caps)) => callPure st.loc (evs st c.args.toList ++ caps.map fun p => .v (.one (.ptr p))) f (E.pur h)
      | _ => none
    | .builtin .len => match c.argTypes[0]? with
      | some t => match evs st c.args.toList, E.T t with
        | [.v (.one (.sl s))], some { und := .slice _, .. } => match s.len st.loc with
          | some n => f (.v (.one (.int .i64 (n : Int)))) []
          | none => none
        | [.v (.one (.str s))], some { und := .str, .. } => f (.v (.one (.int .i64 (s.size : Int)))) []
        | _, _ => none
      | none => none
    | .builtin .max => match evs st c.args.toList with
      | .v (.one x) :: r => match foldC (minmaxK true) x r with
        | some y => f (.v (.one y)) []
        | none => none
      | _ => none
    | .builtin .min => match evs st c.args.toList with
      | .v (.one x) :: r => match foldC (minmaxK false) x r with
        | some y => f (.v (.one y)) []
        | none => none
      | _ => none
    | _ => none
  | _ => none
where
  places : List FV → Option (List Place)
    | [] => some []
    | .v (.one (.ptr p)) :: r => match places r with
      | some ps => some (p :: ps)
      | none => none
    | _ => none

def St.bind (st : St) (dst : Option Tmp) (v : FV) (bs : List Blk) : St :=
  { st with fr := match dst with | some d => (d, v) :: st.fr | none => st.fr, loc := st.loc ++ bs }

def dstOk (n : Nat) : Option Tmp → Bool
  | some d => Nat.blt d n
  | none => true

/-- no block twice -/
def nodupB : List Nat → Bool
  | [] => true
  | x :: r => !memB r x && nodupB r

/-- Data without views. -/
def noR : Ty → Bool
  | .pair a b => noR a && noR b
  | .slice e => noR e
  | .rslice _ => false
  | .ref _ => false
  | _ => true

/-- A slice inside data, by its cell's place. -/
def getSl (e : Ty) : (τ : Ty) → τ.D → Nat → Option (List e.D)
  | .pair a b, x, off => bif Nat.blt off a.size then getSl e a x.1 off else getSl e b x.2 (off - a.size)
  | .slice τ, x, off => bif Nat.beq off 0 then (if h : τ = e then some (cstL h x) else none) else none
  | _, _, _ => none

def putSl (e : Ty) (ys : List e.D) : (τ : Ty) → τ.D → Nat → Option τ.D
  | .pair a b, x, off => bif Nat.blt off a.size then (match putSl e ys a x.1 off with
      | some y => some (y, x.2)
      | none => none)
    else (match putSl e ys b x.2 (off - a.size) with
      | some y => some (x.1, y)
      | none => none)
  | .slice τ, _, off => bif Nat.beq off 0 then (if h : e = τ then some (cstL h ys) else none) else none
  | _, _, _ => none

/-- The data of a row that is lent. -/
def lendRow (loc : List Blk) (e : Ty) (b : Nat) : Option (List e.D × List Nat) := match loc[b]? with
  | some (.row _ τ xs) => if h : τ = e then some (cstL h xs, [b]) else none
  | _ => none

def lendNest (loc : List Blk) (e : Ty) (b i off : Nat) : Option (List e.D × List Nat) := match loc[b]? with
  | some (.row _ τ xs) => match getSl e τ (xs.getD i τ.zero) off with
    | some ys => some (ys, [b])
    | none => none
  | _ => none

def lendSl (loc : List Blk) (e : Ty) : Option Sl → Option (List e.D × List Nat)
  | some (.row b) => lendRow loc e b
  | some (.nest b i off _ _) => lendNest loc e b i off
  | _ => none

/-- The rows that an owned argument uses; they are lent, for the call. -/
def ownArg (loc : List Blk) : (τ : Ty) → List C → Option (τ.D × List Nat)
  | .int k, cs => withNil (cInt k cs)
  | .bool, cs => withNil (cBool cs)
  | .flt k, cs => withNil (cFlt k cs)
  | .str, cs => withNil (cStr cs)
  | .unit, cs => withNil (cUnit cs)
  | .pair a b, cs => match ownArg loc a (cs.take a.size), ownArg loc b (cs.drop a.size) with
    | some (x, l), some (y, l') => some ((x, y), l ++ l')
    | _, _ => none
  | .slice e, cs => lendSl loc e (cSl cs)
  | .rslice e, cs => withNil (viewOf e (cSl cs))
  | .ref e, cs => withNil (viewRef e (cPl cs))
  | .fn f, cs => withNil (cFn f cs)

/-- What an owned argument holds behind the call, laid back into its rows. -/
def backD : (τ : Ty) → τ.D → List C → List Blk → List Blk
  | .pair a b, x, cs, loc => backD b x.2 (cs.drop a.size) (backD a x.1 (cs.take a.size) loc)
  | .slice e, xs, [.sl (.row b)], loc => match loc[b]? with
    | some (.row p _ _) => loc.set b (.row p e xs)
    | _ => loc
  | .slice e, ys, [.sl (.nest b i off _ _)], loc => match loc[b]? with
    | some (.row p τ xs) => match putSl e ys τ (xs.getD i τ.zero) off with
      | some x => loc.set b (.row p τ (xs.set i x))
      | none => loc
    | _ => loc
  | _, _, _, loc => loc

/-- The rows that the owned arguments use. -/
def usedP (loc : List Blk) : PTy → FV → Option (List Nat)
  | .own false τ, .v (.one c) => bif noR τ then (match ownArg loc τ [c] with
    | some (_, l) => some l
    | none => none) else none
  | .own true τ, .v (.agg cs) => bif noR τ then (match ownArg loc τ cs with
    | some (_, l) => some l
    | none => none) else none
  | .own _ _, _ => none
  | .optr _, _ => none
  | _, _ => some []

def usedPs (loc : List Blk) : List PTy → List FV → Option (List Nat)
  | [], [] => some []
  | p :: r, v :: vs => match usedP loc p v, usedPs loc r vs with
    | some l, some l' => some (l ++ l')
    | _, _ => none
  | _, _ => none

/-- Owned arguments as they are; those that are read alone, with the lent rows out of sight. -/
def mutD (loc : List Blk) (used : List Nat) : (p : PTy) → FV → Option p.D
  | .own false τ, .v (.one c) => match ownArg loc τ [c] with
    | some (x, _) => some x
    | none => none
  | .own true τ, .v (.agg cs) => match ownArg loc τ cs with
    | some (x, _) => some x
    | none => none
  | p, v => argD ((deadAt used 0 loc).map (Blk.kill used [])) p (v.kill used [])

def mutsD (loc : List Blk) (used : List Nat) : (ps : List PTy) → List FV → Option (PD ps)
  | [], [] => some ()
  | p :: r, v :: vs => match mutD loc used p v, mutsD loc used r vs with
    | some x, some y => some (x, y)
    | _, _ => none
  | _, _ => none

def backP : (p : PTy) → p.D → FV → List Blk → List Blk
  | .own false τ, x, .v (.one c), loc => backD τ x [c] loc
  | .own true τ, x, .v (.agg cs), loc => backD τ x cs loc
  | _, _, _, loc => loc

def backPs : (ps : List PTy) → PD ps → List FV → List Blk → List Blk
  | p :: r, x, v :: vs, loc => backPs r x.2 vs (backP p x.1 v loc)
  | _, _, _, loc => loc

/-- A call that changes what it is lent. -/
def callMut (st : St) (args : List FV) (dst : Option Tmp) (f : St → Option R) : List FX → Option R
  | [] => none
  | fx :: r => match usedPs st.loc fx.ps args with
    | some used => bif nodupB used then (match mutsD st.loc used fx.ps args with
      | some ds => (fx.run ds).bind fun out => match impR st.loc.length fx.res out.1 with
        | (v, bs) => f (({ st with loc := backPs fx.ps out.2 args st.loc }.kill [] used).bind dst v bs)
      | none => callMut st args dst f r)
      else none
    | none => callMut st args dst f r

def effStore (t : TypeId) (p : Place) (v : FV) (st : St) (f : St → Option R) : Option R :=
  match E.T t, v.cells with
  | some ti, some vs => bif Nat.beq vs.length ti.size then match p with
    | .box b off => match st.loc[b]? with
      | some (.box cs) => bif Nat.ble (off + ti.size) cs.length then f (st.setBlk b (.box (putC cs off vs))) else none
      | _ => none
    | .elem b i off => match st.loc[b]? with
      | some (.row pin τ xs) => bif hasSl τ then
          bif Nat.beq off 0 && Nat.beq ti.size τ.size then match ownD st.loc τ vs with
            | some (x, ms) => bif nodupB (b :: ms) then f ((st.setBlk b (.row pin τ (xs.set i x))).kill ms [b]) else none
            | none => none
          else match setAt τ (xs.getD i τ.zero) off vs with
            | some x => f ((st.setBlk b (.row pin τ (xs.set i x))).kill [] [b])
            | none => none
        else match setAt τ (xs.getD i τ.zero) off vs with
          | some x => f (st.setBlk b (.row pin τ (xs.set i x)))
          | none => none
      | _ => none
    | .view _ _ _ => none
    else none
  | _, _ => none

/-- append: what is appended; rows go along where the elements have slices. -/
def appD (loc : List Blk) (τ : Ty) (s : Sl) : Option (List τ.D × List Nat) :=
  match hasSl τ with
  | true => giveSl loc τ (some s)
  | false => match slD loc τ s with
    | some xs => some (xs, [])
    | none => none

/-- Row b grows. -/
def growRow (dst : Option Tmp) (b : Nat) (τ : Ty) (xs ys : List τ.D) (ms : List Nat) (st : St) (f : St → Option R) : Option R :=
  bif nodupB (b :: ms) && Nat.ble (xs.length + ys.length) 4294967296 then
    f (((st.kill (b :: ms) []).setBlk b (.row false τ (xs ++ ys))).bind dst (.v (.one (.sl (.row b)))) []) else none

def effAppend (dst : Option Tmp) (t : TypeId) (s : Sl) (x : FV) (st : St) (f : St → Option R) : Option R :=
  match E.T t with
  | some { und := .slice e, .. } => match E.T e, x with
    | some te, .v (.one (.sl y)) => bif Nat.beq te.ty.size te.size && Nat.blt te.bytes 32768 && Nat.beq te.zero.length te.size then match appD st.loc te.ty y with
      | some (ys, ms) => match s with
        | .nil => growRow dst st.loc.length te.ty [] ys ms { st with loc := st.loc ++ [.row false te.ty []] } f
        | .row b => match st.loc[b]? with
          | some (.row false τ xs) => if h : τ = te.ty then growRow dst b te.ty (cstL h xs) ys ms st f else none
          | _ => none
        | _ => none
      | none => none
      else none
    | _, _ => none
  | _ => none

/-- A slice literal whose elements take rows along. -/
def effBuild (dst : Option Tmp) (t : TypeId) (len : Nat) (parts : Array (Nat × Operand)) (st : St) (f : St → Option R) : Option R :=
  match E.T t, partsC st parts.toList with
  | some { und := .slice e, .. }, some ps => match E.T e with
    | some te => match fillC (fun i => some (i * te.size, te.size)) ps (List.replicate len te.zero).flatten with
      | some cs => match elemsD st.loc te.ty len cs with
        | some (ys, ms) => bif Nat.ble len 65536 && Nat.ble (len * te.size) 65536 && Nat.beq te.ty.size te.size && Nat.beq te.zero.length te.size then
            growRow dst st.loc.length te.ty [] ys ms { st with loc := st.loc ++ [.row false te.ty []] } f else none
        | _ => none
      | none => none
    | none => none
  | _, _ => none

def deepSl (t : TypeId) : Bool := match E.T t with
  | some { und := .slice e, .. } => match E.T e with
    | some te => hasSl te.ty
    | none => false
  | _ => false

def isEff : Op → Bool
  | .store _ _ _ => true
  | .buildSlice t _ _ => deepSl E t
  | .call c => match c.callee with
    | .builtin .append => true
    | _ => false
  | _ => false

/-- One operation, in the order of the text. -/
def opK (o : Oper) (st : St) (f : St → Option R) : Option R :=
  bif dstOk st.n o.dst then match o.op with
  | .store t a x => match st.ev a with
    | .v (.one (.ptr p)) => effStore E t p (st.ev x) st fun st' => f (st'.bind o.dst .undef [])
    | _ => none
  | .buildSlice t len parts => bif deepSl E t then effBuild E o.dst t len parts st f else pureK E o st fun v bs => f (st.bind o.dst v bs)
  | .call c => match c.callee with
    | .builtin .append => match evs st c.args.toList, c.argTypes.toList with
      | [.v (.one (.sl s)), x], [t, u] => bif Nat.beq t u then effAppend E o.dst t s x st f else none
      | _, _ => none
    | .value g => match st.ev g with
      | .v (.one (.fn h caps)) => match E.mutf h with
        | [] => pureK E o st fun v bs => f (st.bind o.dst v bs)
        | fx :: r => callMut st (evs st c.args.toList ++ caps.map fun p => .v (.one (.ptr p))) o.dst f (fx :: r)
      | _ => none
    | _ => pureK E o st fun v bs => f (st.bind o.dst v bs)
  | _ => pureK E o st fun v bs => f (st.bind o.dst v bs)
  else none

/-- The tmp holds this Bool from here on. -/
def St.learn (st : St) (c : Operand) (b : Bool) : St := match c with
  | .tmp t => { st with fr := (t, .v (.one (.bool b))) :: st.fr }
  | _ => st

def guardT (ops : List Oper) (j : Nat) : Option Tmp := match ops[j]? with
  | some o => o.dst
  | none => none

def runSeq (all : List Oper) : List Oper → St → (St → Option R) → Option R
  | [], st, f => f st
  | o :: r, st, f => match o.guard with
    | none => opK E o st fun st' => runSeq all r st' f
    | some (j, want) => match guardT all j with
      | some t => match look st.fr t with
        | .v (.one (.bool b)) => match want with
          | true => bif b then opK E o (st.learn (.tmp t) true) fun st' => runSeq all r st' f
            else bif dstOk st.n o.dst then runSeq all r ((st.learn (.tmp t) false).bind o.dst (.tup []) []) f else none
          | false => bif b then bif dstOk st.n o.dst then runSeq all r ((st.learn (.tmp t) true).bind o.dst (.tup []) []) f else none
            else opK E o (st.learn (.tmp t) false) fun st' => runSeq all r st' f
        | .tup [] => bif dstOk st.n o.dst then runSeq all r (st.bind o.dst (.tup []) []) f else none
        | _ => none
      | none => none

/-! regions whose order is open: their first operations change nothing; each sees what it must wait for -/
structure Acc where
  ents : List (Nat × Option Tmp × FV)
  tags : List Nat

def visB (before : List Nat) (j k : Nat) : Bool := (before.getD k 0).testBit j

/-! whom an operation waits for: numbers, worked out once -/
def force {α : Type} (n : Nat) (k : Nat → α) : α := match n with
  | 0 => k 0
  | m + 1 => k (m + 1)

def forceL {α : Type} : List Nat → (List Nat → α) → α
  | [], k => k []
  | x :: r, k => forceL r fun r' => k (x :: r')

def edgesUp (k : Nat) : List Edge → Bool
  | [] => true
  | e :: r => (!Region.binds .any e || Nat.blt e.on k) && edgesUp k r

def edgeMask (look : Nat → Nat) : List Edge → Nat
  | [] => 0
  | e :: r => bif Region.binds .any e then 2 ^ e.on ||| (look e.on ||| edgeMask look r) else edgeMask look r

def befs {α : Type} : List Oper → List Nat → (List Nat → α) → α
  | [], acc, f => forceL acc f
  | o :: r, acc, f => force (edgeMask (fun i => acc.getD i 0) o.after.toList) fun v => forceL (acc ++ [v]) fun acc' => befs r acc' f

def befOk (bs : List Nat) : Nat → List Oper → Bool
  | _, [] => true
  | k, o :: r => edgesUp k o.after.toList && Nat.beq (bs.getD k 0) (edgeMask (fun i => bs.getD i 0) o.after.toList) && befOk bs (k + 1) r

def maskLoc (vis : Nat → Bool) : List Blk → List Nat → List Blk
  | [], _ => []
  | b :: r, [] => b :: r
  | b :: r, t :: ts => (bif Nat.beq t 0 then b else bif vis (t - 1) then b else .dead) :: maskLoc vis r ts

def entsFr (vis : Nat → Bool) : List (Nat × Option Tmp × FV) → List (Nat × FV)
  | [] => []
  | (j, some d, v) :: r => bif vis j then (d, v) :: entsFr vis r else entsFr vis r
  | (_, none, _) :: r => entsFr vis r

/-- tmps that another operation of the first part may write before or behind -/
def hiddenT (before : List Nat) (k : Nat) : Nat → List Oper → List Nat
  | _, [] => []
  | j, o :: r => match o.dst with
    | some d => bif Nat.beq j k || visB before j k || visB before k j then hiddenT before k (j + 1) r else d :: hiddenT before k (j + 1) r
    | none => hiddenT before k (j + 1) r

def baseFr (hid : List Nat) : List (Nat × FV) → List (Nat × FV)
  | [] => []
  | (d, v) :: r => bif memB hid d then baseFr hid r else (d, v) :: baseFr hid r

def stAt (before : List Nat) (pre : List Oper) (st : St) (loc : List Blk) (acc : Acc) (k : Nat) : St :=
  { n := st.n, fr := entsFr (fun j => visB before j k) acc.ents ++ baseFr (hiddenT before k 0 pre) st.fr, loc := maskLoc (fun j => visB before j k) loc acc.tags }

def learnE (j : Nat) (b : Bool) : List (Nat × Option Tmp × FV) → List (Nat × Option Tmp × FV)
  | [] => []
  | (i, some d, v) :: r => bif Nat.beq i j then (i, some d, .v (.one (.bool b))) :: r else (i, some d, v) :: learnE j b r
  | (i, none, v) :: r => (i, none, v) :: learnE j b r

def entAt (j : Nat) : List (Nat × Option Tmp × FV) → FV
  | [] => .undef
  | (i, some _, v) :: r => bif Nat.beq i j then v else entAt j r
  | (_, none, _) :: r => entAt j r

def runPre (before : List Nat) (pre : List Oper) (st : St) : List Oper → Nat → List Blk → Acc → (St → Option R) → Option R
  | [], _, loc, acc, f => f { st with fr := entsFr (fun _ => true) acc.ents ++ st.fr, loc := loc }
  | o :: r, k, loc, acc, f =>
    let one (acc : Acc) : Option R := pureK E o (stAt before pre st loc acc k) fun v bs =>
      runPre before pre st r (k + 1) (loc ++ bs) { ents := (k, o.dst, v) :: acc.ents, tags := acc.tags ++ List.replicate bs.length (k + 1) } f
    let none' (acc : Acc) : Option R := runPre before pre st r (k + 1) loc { acc with ents := (k, o.dst, .tup []) :: acc.ents } f
    match o.guard with
    | none => one acc
    | some (j, want) => bif visB before j k then match entAt j acc.ents with
      | .v (.one (.bool b)) => match want with
        | true => bif b then one { acc with ents := learnE j true acc.ents } else none' { acc with ents := learnE j false acc.ents }
        | false => bif b then none' { acc with ents := learnE j true acc.ents } else one { acc with ents := learnE j false acc.ents }
      | .tup [] => none' acc
      | _ => none
      else none

/-- How many operations at the begin only change their own tmps. -/
def preLen : List Oper → Nat
  | [] => 0
  | o :: r => bif isEff E o.op || (match o.op with
      | .call c => match c.callee with
        | .value (.func h) => !(E.mutf h).isEmpty
        | _ => false
      | _ => false) then 0 else preLen r + 1

/-- Every operation from k on waits for all before it. -/
def restOk (before : List Nat) : Nat → Nat → Bool
  | _, 0 => true
  | k, n + 1 => Nat.beq (before.getD k 0) (2 ^ k - 1) && restOk before (k + 1) n

def dsts : List Oper → List Nat
  | [] => []
  | o :: r => match o.dst with
    | some d => d :: dsts r
    | none => dsts r

def regionK (ops : List Oper) (draw : Bool) (st : St) (f : St → Option R) : Option R :=
  match draw with
  | false => runSeq E ops ops st f
  | true =>
    befs ops [] fun before => force (preLen E ops) fun p =>
    bif befOk before 0 ops && nodupB (dsts (ops.take p)) && (ops.take p).all (fun o => dstOk st.n o.dst) && restOk before p (ops.length - p) then
      runPre E before (ops.take p) st (ops.take p) 0 st.loc { ents := [], tags := List.replicate st.loc.length 0 } fun st' =>
        runSeq E ops (ops.drop p) st' f
    else none

end op

/-! loops: what is kept at their heads -/
inductive K where
  | dat (ag : Bool) (τ : Ty)
  | cst (c : C)
  | sub (b : Nat)
  | fnc (f : FuncId) (caps : List Ty)

inductive CK where
  | dat (τ : Ty)
  | cst (c : C)

inductive BK where
  | dead
  | box (cs : List CK)
  | row (pin : Bool) (τ : Ty)

@[reducible] def K.D : K → Type
  | .dat _ τ => τ.D
  | .cst _ => Unit
  | .sub _ => Nat × Nat
  | .fnc _ ts => TysD ts

@[reducible] def CKsD : List CK → Type
  | [] => Unit
  | .dat τ :: r => τ.D × CKsD r
  | .cst _ :: r => CKsD r

@[reducible] def BK.D : BK → Type
  | .dead => Unit
  | .box cs => CKsD cs
  | .row _ τ => List τ.D

@[reducible] def SlotsD : List (Nat × K) → Type
  | [] => Unit
  | (_, .dat _ τ) :: r => τ.D × SlotsD r
  | (_, .cst _) :: r => SlotsD r
  | (_, .sub _) :: r => (Nat × Nat) × SlotsD r
  | (_, .fnc _ ts) :: r => TysD ts × SlotsD r

@[reducible] def BlksD : List BK → Type
  | [] => Unit
  | .dead :: r => BlksD r
  | .box cs :: r => CKsD cs × BlksD r
  | .row _ τ :: r => List τ.D × BlksD r

structure Sig where
  slots : List (Nat × K)
  blks : List BK

@[reducible] def Sig.D (s : Sig) : Type := SlotsD s.slots × BlksD s.blks

/-- Data of cells whose slices are read alone. -/
def viewD : (τ : Ty) → List C → Option τ.D
  | .int k, cs => cInt k cs
  | .bool, cs => cBool cs
  | .flt k, cs => cFlt k cs
  | .str, cs => cStr cs
  | .unit, cs => cUnit cs
  | .pair a b, cs => match viewD a (cs.take a.size), viewD b (cs.drop a.size) with
    | some x, some y => some (x, y)
    | _, _ => none
  | .slice e, cs => viewOf e (cSl cs)
  | .rslice e, cs => viewOf e (cSl cs)
  | .ref e, cs => viewRef e (cPl cs)
  | .fn f, cs => cFn f cs

def samePl : Place → Place → Bool
  | .box b o, .box b' o' => Nat.beq b b' && Nat.beq o o'
  | _, _ => false

def samePls : List Place → List Place → Bool
  | [], [] => true
  | p :: r, q :: s => samePl p q && samePls r s
  | _, _ => false

def sameC : C → C → Bool
  | .fn f l, .fn g m => Nat.beq f g && samePls l m
  | .pnil, .pnil => true
  | .ptr p, .ptr q => samePl p q
  | .sl .nil, .sl .nil => true
  | .sl (.row b), .sl (.row b') => Nat.beq b b'
  | .undef, .undef => true
  | _, _ => false

/-- Captured variables that are read alone. -/
def encTs : (l : List Ty) → TysD l → List Place
  | [], _ => []
  | τ :: r, x => .view τ x.1 0 :: encTs r x.2

def viewP (τ : Ty) : Place → Option τ.D
  | .view σ x 0 => if h : σ = τ then some (cst h x) else none
  | _ => none

def decTs : (l : List Ty) → List Place → Option (TysD l)
  | [], [] => some ()
  | τ :: r, p :: ps => match viewP τ p, decTs r ps with
    | some x, some y => some (x, y)
    | _, _ => none
  | _, _ => none

def encSlots : (l : List (Nat × K)) → SlotsD l → List (Nat × FV)
  | [], _ => []
  | (t, .dat ag τ) :: r, x => (t, wrapV ag (enc τ x.1)) :: encSlots r x.2
  | (t, .cst c) :: r, x => (t, .v (.one c)) :: encSlots r x
  | (t, .sub b) :: r, x => (t, .v (.one (.sl (.sub b x.1.1 x.1.2)))) :: encSlots r x.2
  | (t, .fnc f ts) :: r, x => (t, .v (.one (.fn f (encTs ts x.1)))) :: encSlots r x.2

def decSlots (fr : List (Nat × FV)) : (l : List (Nat × K)) → Option (SlotsD l)
  | [] => some ()
  | (t, .dat ag τ) :: r => match ag, look fr t with
    | false, .v (.one c) => match viewD τ [c], decSlots fr r with
      | some x, some y => some (x, y)
      | _, _ => none
    | true, .v (.agg cs) => match viewD τ cs, decSlots fr r with
      | some x, some y => some (x, y)
      | _, _ => none
    | _, _ => none
  | (t, .cst c) :: r => match look fr t with
    | .v (.one c') => bif sameC c' c then decSlots fr r else none
    | _ => none
  | (t, .sub b) :: r => match look fr t with
    | .v (.one (.sl (.sub b' o l))) => bif Nat.beq b' b then match decSlots fr r with
      | some y => some ((o, l), y)
      | none => none
      else none
    | _ => none
  | (t, .fnc f ts) :: r => match look fr t with
    | .v (.one (.fn f' ps)) => bif Nat.beq f' f then (match decTs ts ps, decSlots fr r with
      | some x, some y => some (x, y)
      | _, _ => none)
      else none
    | _ => none

def encCKs : (l : List CK) → CKsD l → List C
  | [], _ => []
  | .dat τ :: r, x => enc τ x.1 ++ encCKs r x.2
  | .cst c :: r, x => c :: encCKs r x

def decCKs : (l : List CK) → List C → Option (CKsD l)
  | [], [] => some ()
  | .dat τ :: r, cs => match viewD τ (cs.take τ.size), decCKs r (cs.drop τ.size) with
    | some x, some y => some (x, y)
    | _, _ => none
  | .cst c :: r, c' :: cs => bif sameC c' c then decCKs r cs else none
  | _, _ => none

def encBlks : (l : List BK) → BlksD l → List Blk
  | [], _ => []
  | .dead :: r, x => .dead :: encBlks r x
  | .box cs :: r, x => .box (encCKs cs x.1) :: encBlks r x.2
  | .row p τ :: r, x => .row p τ x.1 :: encBlks r x.2

def decBlks : List Blk → (l : List BK) → Option (BlksD l)
  | _, [] => some ()
  | _ :: bs, .dead :: r => decBlks bs r
  | .box cs :: bs, .box l :: r => match decCKs l cs, decBlks bs r with
    | some x, some y => some (x, y)
    | _, _ => none
  | .row p τ xs :: bs, .row p' τ' :: r => if h : τ = τ' then bif p == p' then match decBlks bs r with
      | some y => some (cstL h xs, y)
      | none => none
      else none
    else none
  | _, _ => none

def Sig.enc (s : Sig) (n : Nat) (x : s.D) : St := { n := n, fr := encSlots s.slots x.1, loc := encBlks s.blks x.2 }

/-! what is held fast at a head must still be there -/
def plOkIn (bs : List BK) : Place → Bool
  | .box b _ => match bs[b]? with
    | some (.box _) => true
    | _ => false
  | _ => false

def rowOkIn (bs : List BK) (b : Nat) : Bool := match bs[b]? with
  | some (.row _ _) => true
  | _ => false

def C.okIn (bs : List BK) : C → Bool
  | .undef => true
  | .pnil => true
  | .fn _ caps => caps.all (plOkIn bs)
  | .ptr p => plOkIn bs p
  | .sl .nil => true
  | .sl (.row b) => rowOkIn bs b
  | _ => false

def slotsOk (bs : List BK) : List (Nat × K) → Bool
  | [] => true
  | (_, .dat _ _) :: r => slotsOk bs r
  | (_, .cst c) :: r => c.okIn bs && slotsOk bs r
  | (_, .sub b) :: r => rowOkIn bs b && slotsOk bs r
  | (_, .fnc _ _) :: r => slotsOk bs r

def cksOk (bs : List BK) : List CK → Bool
  | [] => true
  | .dat _ :: r => cksOk bs r
  | .cst c :: r => c.okIn bs && cksOk bs r

def blksOk (bs : List BK) : List BK → Bool
  | [] => true
  | .box cs :: r => cksOk bs cs && blksOk bs r
  | _ :: r => blksOk bs r

def Sig.ok (s : Sig) : Bool := slotsOk s.blks s.slots && blksOk s.blks s.blks

def Sig.dec (s : Sig) (st : St) : Option s.D :=
  bif s.ok then match decSlots st.fr s.slots, decBlks st.loc s.blks with
  | some x, some y => some (x, y)
  | _, _ => none
  else none

/-- A slice variable that is nil becomes an empty row: in a tmp, or in a cell of a box. -/
inductive Mat where
  | slot (t : Nat) (τ : Ty)
  | cell (b j : Nat) (τ : Ty)

def St.mat1 (st : St) : Mat → St
  | .slot t τ => match look st.fr t with
    | .v (.one (.sl .nil)) => { st with fr := (t, .v (.one (.sl (.row st.loc.length)))) :: st.fr, loc := st.loc ++ [.row false τ []] }
    | _ => st
  | .cell b j τ => match st.loc[b]? with
    | some (.box cs) => match cs[j]? with
      | some (.sl .nil) => { st with loc := st.loc.set b (.box (cs.set j (.sl (.row st.loc.length)))) ++ [.row false τ []] }
      | _ => st
    | _ => st

def St.mat (st : St) (l : List Mat) : St := l.foldl St.mat1 st

/-- What a loop leaves: whether the function returns from within, if it can. -/
@[reducible] def LRes : Bool → Type → Type
  | true, D => Bool × D
  | false, D => D

def mkRes {D : Type} : (r : Bool) → Bool → D → Option (LRes r D)
  | true, b, y => some (b, y)
  | false, false, y => some y
  | false, true, _ => none

/-- rets: the function may return from within; ex: the block that the loop leaves else. -/
structure LM where
  mat : List Mat
  head : Sig
  out : Sig
  ex : Nat
  rets : Bool
  run : head.D → Option (LRes rets out.D)

def endL {R D : Type} (enc : D → St) (ex : Nat) (f : Ex → St → Option R) : (r : Bool) → LRes r D → Option R
  | true, y => bif y.1 then f .ret (enc y.2) else f (.exit ex) (enc y.2)
  | false, y => f (.exit ex) (enc y)

/-- How a loop is taken: by a model, or round by round. -/
inductive LP where
  | lm (l : LM)
  | unroll (k : Nat)

def unrollK {R : Type} (step : St → (Ex → St → Option R) → Option R) : Nat → St → (Ex → St → Option R) → Option R
  | 0, _, _ => none
  | k + 1, st, f => step st fun e st' => match e with
    | .normal => unrollK step k st' f
    | .ret => f .ret st'
    | .exit i => f (.exit i) st'

def firstReg : Code → Option Nat
  | .region id _ _ => some id
  | .seq a b => match firstReg a with
    | some r => some r
    | none => firstReg b
  | .cond _ a b => match firstReg a with
    | some r => some r
    | none => firstReg b
  | .block _ c => firstReg c
  | .loop c => firstReg c
  | .scope c => firstReg c
  | _ => none

section code
variable {R : Type} (E : Tabs) (L : Nat → Option LP)

def exec : Code → St → (Ex → St → Option R) → Option R
  | .skip, st, f => f .normal st
  | .region _ ops draw, st, f => regionK E ops.toList draw st fun st' => f .normal st'
  | .seq a b, st, f => exec a st fun e st' => match e with
    | .normal => exec b st' f
    | .ret => f .ret st'
    | .exit i => f (.exit i) st'
  | .cond c a b, st, f => match st.ev c with
    | .v (.one (.bool t)) => bif t then exec a (st.learn c true) f else exec b (st.learn c false) f
    | _ => none
  | .block id c, st, f => exec c st fun e st' => match e with
    | .normal => f .normal st'
    | .ret => f .ret st'
    | .exit i => bif Nat.beq i id then f .normal st' else f (.exit i) st'
  | .loop body, st, f => match firstReg body with
    | some r => match L r with
      | some (.lm lm) => match lm.head.dec (st.mat lm.mat) with
        | some x => (lm.run x).bind fun y => endL (fun d => lm.out.enc st.n d) lm.ex f lm.rets y
        | none => none
      | some (.unroll n) => unrollK (fun st' g => exec body st' g) n st f
      | none => none
    | none => none
  | .exit id, st, f => f (.exit id) st
  | .ret, st, f => f .ret st
  | .label _, st, f => f .normal st
  | .goto _, _, _ => none
  | .scope _, _, _ => none
  | .refuse _, _, _ => none
  | .rangeFunc _ _ _ _, _, _ => none

/-- One round of a loop. -/
def round (lm : LM) (n : Nat) (body : Code) (rec' : lm.head.D → Option (LRes lm.rets lm.out.D)) (x : lm.head.D) : Option (LRes lm.rets lm.out.D) :=
  exec E L body (lm.head.enc n x) fun e st => match e with
    | .normal => match lm.head.dec (st.mat lm.mat) with
      | some y => rec' y
      | none => none
    | .ret => match lm.out.dec st with
      | some y => mkRes lm.rets true y
      | none => none
    | .exit i => bif Nat.beq i lm.ex then (match lm.out.dec st with
      | some y => mkRes lm.rets false y
      | none => none) else none

/-! functions -/
def enterP : Nat → (p : PTy) → p.D → FV × List Blk
  | _, .ro ag τ, x => (wrapV ag (enc τ x), [])
  | _, .rptr τ, x => (.v (.one (.ptr (.view τ x 0))), [])
  | _, .fnc f caps, x => (.v (.one (.fn f (encCaps caps x))), [])
  | n, .own ag τ, x => match imp true n τ x with
    | (cs, l) => (wrapV ag cs, l)
  | n, .optr τ, x => match imp false (n + 1) τ x with
    | (cs, l) => (.v (.one (.ptr (.box n 0))), .box cs :: l)
where
  encCaps : (l : List Ty) → TysD l → List Place
    | [], _ => []
    | τ :: r, x => .view τ x.1 0 :: encCaps r x.2

def enterPs : Nat → Nat → (ps : List PTy) → PD ps → List (Nat × FV) × List Blk
  | _, _, [], _ => ([], [])
  | t, n, p :: r, x => match enterP n p x.1 with
    | (v, l) => match enterPs (t + 1) (n + l.length) r x.2 with
      | (fr, l') => ((t, v) :: fr, l ++ l')

/-- What the rows from n on hold that came in with an owned parameter. -/
def leaveD (loc : List Blk) : Nat → (τ : Ty) → τ.D → Option (τ.D × List Nat)
  | n, .pair a b, x => match leaveD loc n a x.1, leaveD loc (n + (imp true n a x.1).2.length) b x.2 with
    | some (y, l), some (z, l') => some ((y, z), l ++ l')
    | _, _ => none
  | n, .slice e, _ => match loc[n]? with
    | some (.row true τ xs) => if h : τ = e then some (cstL h xs, [n]) else none
    | _ => none
  | _, .int _, x => some (x, [])
  | _, .bool, x => some (x, [])
  | _, .flt _, x => some (x, [])
  | _, .str, x => some (x, [])
  | _, .unit, x => some (x, [])
  | _, .fn _, x => some (x, [])
  | _, .rslice _, _ => none
  | _, .ref _, _ => none

/-- What the owned parameters hold at the end, and the rows that they use. -/
def leaveP (loc : List Blk) : Nat → (p : PTy) → p.D → Option (p.D × List Nat)
  | _, .ro _ _, x => some (x, [])
  | _, .rptr _, x => some (x, [])
  | _, .fnc _ _, x => some (x, [])
  | n, .own _ τ, x => leaveD loc n τ x
  | _, .optr _, _ => none

def leavePs (loc : List Blk) : Nat → (ps : List PTy) → PD ps → Option (PD ps × List Nat)
  | _, [], _ => some ((), [])
  | n, p :: r, x => match leaveP loc n p x.1, leavePs loc (n + (enterP n p x.1).2.length) r x.2 with
    | some (y, l), some (z, l') => some ((y, z), l ++ l')
    | _, _ => none

def resV (st : St) : ResultVar → Option FV
  | .tmp t => some (look st.fr t)
  | .cell a t => match look st.fr a, E.T t with
    | .v (.one (.ptr p)), some ti => match loadC st.loc ti.size p with
      | some cs => some (wrapV ti.und.agg cs)
      | none => none
    | _, _ => none

/-- The cells of the results. -/
def resC (st : St) : List (Bool × Ty) → List ResultVar → Option (List C)
  | [], [] => some []
  | (ag, τ) :: r, v :: vs => match resV E st v, resC st r vs with
    | some (.v (.one c)), some l => bif !ag && Nat.beq τ.size 1 then some (c :: l) else none
    | some (.v (.agg cs)), some l => bif ag && Nat.beq cs.length τ.size then some (cs ++ l) else none
    | _, _ => none
  | _, _ => none

def resD (st : St) (vs : List ResultVar) : (r : RTy) → Option (r.D × List Nat)
  | .one ag τ => match resC E st [(ag, τ)] vs with
    | some cs => ownD st.loc τ cs
    | none => none
  | .tup l => bif Nat.beq l.length 1 then none else match resC E st l vs with
    | some cs => ownD st.loc (tupTy l) cs
    | none => none

def outX (fn : Func) (ps : List PTy) (res : RTy) (ds : PD ps) (st : St) : Option (res.D × PD ps) :=
  match resD E st fn.results.toList res, leavePs st.loc 0 ps ds with
  | some (x, l), some (y, l') => bif nodupB (l ++ l') then some (x, y) else none
  | _, _ => none

def outF (fn : Func) (res : RTy) (st : St) : Option res.D :=
  match resD E st fn.results.toList res with
  | some (x, l) => bif nodupB l then some x else none
  | none => none

def evalX (fn : Func) (ps : List PTy) (res : RTy) (ds : PD ps) : Option (res.D × PD ps) :=
  match fn.body with
  | some c => exec E L c { n := fn.ntmps, fr := (enterPs 0 0 ps ds).1, loc := (enterPs 0 0 ps ds).2 } fun e st => match e with
      | .exit _ => none
      | .normal => outX E fn ps res ds st
      | .ret => outX E fn ps res ds st
  | none => none

/-- The same where nothing that came in is changed. -/
def evalF (fn : Func) (ps : List PTy) (res : RTy) (ds : PD ps) : Option res.D :=
  match fn.body with
  | some c => exec E L c { n := fn.ntmps, fr := (enterPs 0 0 ps ds).1, loc := (enterPs 0 0 ps ds).2 } fun e st => match e with
      | .exit _ => none
      | .normal => outF E fn res st
      | .ret => outF E fn res st
  | none => none

end code
end Go.Fw
