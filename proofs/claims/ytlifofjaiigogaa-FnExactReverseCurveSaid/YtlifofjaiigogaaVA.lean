/-
  The typed values and the abstract interpreter of the model's code. No condition: definitions alone.
-/
import Derived.Calls
namespace GV
open Go

abbrev Bytes := List UInt8

structure Pt where
  X : Int
  Y : Int
  deriving DecidableEq

structure Frac where
  Num : Int
  Den : Int
  deriving DecidableEq

structure Term where
  Name : Bytes
  Coef : Frac
  deriving DecidableEq

structure Linear where
  Const : Frac
  Terms : List Term
  deriving DecidableEq

structure Row where
  Name : Bytes
  Value : Linear
  deriving DecidableEq

structure System where
  Rows : List Row
  deriving DecidableEq

structure Cubic where
  A : Pt
  B : Pt
  C : Pt
  D : Pt
  deriving DecidableEq

structure Quad where
  A : Pt
  B : Pt
  C : Pt
  deriving DecidableEq

structure Knot where
  At : Pt
  On : Bool
  deriving DecidableEq

structure LoopT where
  Knots : List Knot
  deriving DecidableEq

structure Outline where
  Loops : List LoopT
  deriving DecidableEq

structure Segm where
  Q : Quad
  Straight : Bool
  deriving DecidableEq

structure Token where
  Kind : Int
  Text : Bytes
  At : Int
  deriving DecidableEq

structure Stmt where
  Kind : Int
  Name : Bytes
  Other : Bytes
  Left : Linear
  Right : Linear
  Points : List Bytes
  Numbers : List Int
  Curved : Bool
  Closed : Bool
  deriving DecidableEq

structure Curve where
  Knots : List Pt
  Closed : Bool
  Tension : Int
  FixFirst : Bool
  FixLast : Bool
  First : Pt
  Last : Pt
  deriving DecidableEq

structure Src where
  Code : List UInt8
  At : Int
  Seed : Int
  deriving DecidableEq

/-- The kinds of an element, or of what a pointer leads to. -/
inductive GT where
  | int | u8 | str | bool | pt | frac | term | linear | row | system | cubic | quad | knot | loop | outline | segm | token | stmt | curve | ints | src
  deriving DecidableEq

abbrev GT.den : GT → Type
  | .int => Int
  | .u8 => UInt8
  | .str => Bytes
  | .bool => Bool
  | .pt => Pt
  | .frac => Frac
  | .term => Term
  | .linear => Linear
  | .row => Row
  | .system => System
  | .cubic => Cubic
  | .quad => Quad
  | .knot => Knot
  | .loop => LoopT
  | .outline => Outline
  | .segm => Segm
  | .token => Token
  | .stmt => Stmt
  | .curve => Curve
  | .ints => List Int
  | .src => Src

def dflt : (g : GT) → g.den
  | .int => (0 : Int)
  | .u8 => (0 : UInt8)
  | .str => ([] : Bytes)
  | .bool => false
  | .pt => (⟨0, 0⟩ : Pt)
  | .frac => (⟨0, 0⟩ : Frac)
  | .term => (⟨[], ⟨0, 0⟩⟩ : Term)
  | .linear => (⟨⟨0, 0⟩, []⟩ : Linear)
  | .row => (⟨[], ⟨⟨0, 0⟩, []⟩⟩ : Row)
  | .system => (⟨[]⟩ : System)
  | .cubic => (⟨⟨0, 0⟩, ⟨0, 0⟩, ⟨0, 0⟩, ⟨0, 0⟩⟩ : Cubic)
  | .quad => (⟨⟨0, 0⟩, ⟨0, 0⟩, ⟨0, 0⟩⟩ : Quad)
  | .knot => (⟨⟨0, 0⟩, false⟩ : Knot)
  | .loop => (⟨[]⟩ : LoopT)
  | .outline => (⟨[]⟩ : Outline)
  | .segm => (⟨⟨⟨0, 0⟩, ⟨0, 0⟩, ⟨0, 0⟩⟩, false⟩ : Segm)
  | .token => (⟨0, [], 0⟩ : Token)
  | .stmt => (⟨0, [], [], ⟨⟨0, 0⟩, []⟩, ⟨⟨0, 0⟩, []⟩, [], [], false, false⟩ : Stmt)
  | .curve => (⟨[], false, 0, false, false, ⟨0, 0⟩, ⟨0, 0⟩⟩ : Curve)
  | .ints => ([] : List Int)
  | .src => (⟨[], 0, 0⟩ : Src)

instance (g : GT) : Inhabited g.den := ⟨dflt g⟩

/-- An element by its number. -/
def el {α : Type} [Inhabited α] (xs : List α) (i : Int) : α := xs.getD i.toNat default

/-- What one cell of memory, or one plain value, holds, as the interpreter sees it. -/
inductive Cell where
  | int (k : IntKind) (n : Int)
  | bool (lit b : Bool)
  | str (s : Bytes)
  | nil
  | im (g : GT) (xs : List g.den)
  | sl (o v : Nat)
  | ptr (o v off : Nat)
  | aptr (o v : Nat)
  | eptr (o v : Nat) (i : Int) (off : Nat)
  | vptr (g : GT) (x : g.den) (off : Nat)
  | fn (f : Nat)
  | und

inductive AV where
  | c (x : Cell)
  | agg (cs : List Cell)
  | tup (vs : List (Bool × List Cell))

def enc : (g : GT) → g.den → List Cell
  | .int, n => [.int .i64 n]
  | .u8, b => [.int .u8 (b.toNat : Int)]
  | .str, s => [.str s]
  | .bool, b => [.bool false b]
  | .pt, p => [.int .i64 p.X, .int .i64 p.Y]
  | .frac, f => [.int .i64 f.Num, .int .i64 f.Den]
  | .term, t => [.str t.Name, .int .i64 t.Coef.Num, .int .i64 t.Coef.Den]
  | .linear, l => [.int .i64 l.Const.Num, .int .i64 l.Const.Den, .im .term l.Terms]
  | .row, r => [.str r.Name, .int .i64 r.Value.Const.Num, .int .i64 r.Value.Const.Den, .im .term r.Value.Terms]
  | .system, s => [.im .row s.Rows]
  | .cubic, c => [.int .i64 c.A.X, .int .i64 c.A.Y, .int .i64 c.B.X, .int .i64 c.B.Y, .int .i64 c.C.X, .int .i64 c.C.Y, .int .i64 c.D.X, .int .i64 c.D.Y]
  | .quad, q => [.int .i64 q.A.X, .int .i64 q.A.Y, .int .i64 q.B.X, .int .i64 q.B.Y, .int .i64 q.C.X, .int .i64 q.C.Y]
  | .knot, k => [.int .i64 k.At.X, .int .i64 k.At.Y, .bool false k.On]
  | .loop, l => [.im .knot l.Knots]
  | .outline, o => [.im .loop o.Loops]
  | .segm, s => [.int .i64 s.Q.A.X, .int .i64 s.Q.A.Y, .int .i64 s.Q.B.X, .int .i64 s.Q.B.Y, .int .i64 s.Q.C.X, .int .i64 s.Q.C.Y, .bool false s.Straight]
  | .token, t => [.int .i64 t.Kind, .str t.Text, .int .i64 t.At]
  | .stmt, s => [.int .i64 s.Kind, .str s.Name, .str s.Other, .int .i64 s.Left.Const.Num, .int .i64 s.Left.Const.Den, .im .term s.Left.Terms,
      .int .i64 s.Right.Const.Num, .int .i64 s.Right.Const.Den, .im .term s.Right.Terms, .im .str s.Points, .im .int s.Numbers, .bool false s.Curved, .bool false s.Closed]
  | .curve, c => [.im .pt c.Knots, .bool false c.Closed, .int .i64 c.Tension, .bool false c.FixFirst, .bool false c.FixLast,
      .int .i64 c.First.X, .int .i64 c.First.Y, .int .i64 c.Last.X, .int .i64 c.Last.Y]
  | .ints, xs => [.im .int xs]
  | .src, s => [.im .u8 s.Code, .int .i64 s.At, .int .u64 s.Seed]

def gsize : GT → Nat
  | .int | .u8 | .str | .bool | .system | .loop | .outline | .ints => 1
  | .pt | .frac => 2
  | .term | .linear | .knot | .token | .src => 3
  | .row => 4
  | .cubic => 8
  | .quad => 6
  | .segm => 7
  | .stmt => 13
  | .curve => 9

theorem enc_length : ∀ (g : GT) (x : g.den), (enc g x).length = gsize g := by
  intro g x; cases g <;> rfl

def imTerm : Cell → Option (List Term)
  | .im .term xs => some xs
  | .nil => some []
  | _ => none
def imRow : Cell → Option (List Row)
  | .im .row xs => some xs
  | .nil => some []
  | _ => none
def imKnot : Cell → Option (List Knot)
  | .im .knot xs => some xs
  | .nil => some []
  | _ => none
def imLoop : Cell → Option (List LoopT)
  | .im .loop xs => some xs
  | .nil => some []
  | _ => none
def imStr : Cell → Option (List Bytes)
  | .im .str xs => some xs
  | .nil => some []
  | _ => none
def imInt : Cell → Option (List Int)
  | .im .int xs => some xs
  | .nil => some []
  | _ => none
def imPt : Cell → Option (List Pt)
  | .im .pt xs => some xs
  | .nil => some []
  | _ => none
def imU8 : Cell → Option (List UInt8)
  | .im .u8 xs => some xs
  | .nil => some []
  | _ => none

/-- The value that cells hold; the second part: what must hold beside. -/
def dec : (g : GT) → List Cell → Option (g.den × Option Prop)
  | .int, [.int .i64 n] => some (n, none)
  | .u8, [.int .u8 n] => some (UInt8.ofNat n.toNat, some (0 ≤ n ∧ n < 256))
  | .str, [.str s] => some (s, none)
  | .bool, [.bool _ b] => some (b, none)
  | .pt, [.int .i64 a, .int .i64 b] => some (⟨a, b⟩, none)
  | .frac, [.int .i64 a, .int .i64 b] => some (⟨a, b⟩, none)
  | .term, [.str s, .int .i64 a, .int .i64 b] => some (⟨s, ⟨a, b⟩⟩, none)
  | .linear, [.int .i64 a, .int .i64 b, x] => match imTerm x with
    | some xs => some (⟨⟨a, b⟩, xs⟩, none)
    | none => none
  | .row, [.str s, .int .i64 a, .int .i64 b, x] => match imTerm x with
    | some xs => some (⟨s, ⟨⟨a, b⟩, xs⟩⟩, none)
    | none => none
  | .system, [x] => match imRow x with
    | some xs => some (⟨xs⟩, none)
    | none => none
  | .cubic, [.int .i64 a, .int .i64 b, .int .i64 c, .int .i64 d, .int .i64 e, .int .i64 f, .int .i64 g, .int .i64 h] =>
    some (⟨⟨a, b⟩, ⟨c, d⟩, ⟨e, f⟩, ⟨g, h⟩⟩, none)
  | .quad, [.int .i64 a, .int .i64 b, .int .i64 c, .int .i64 d, .int .i64 e, .int .i64 f] => some (⟨⟨a, b⟩, ⟨c, d⟩, ⟨e, f⟩⟩, none)
  | .knot, [.int .i64 a, .int .i64 b, .bool _ c] => some (⟨⟨a, b⟩, c⟩, none)
  | .loop, [x] => match imKnot x with
    | some xs => some (⟨xs⟩, none)
    | none => none
  | .outline, [x] => match imLoop x with
    | some xs => some (⟨xs⟩, none)
    | none => none
  | .segm, [.int .i64 a, .int .i64 b, .int .i64 c, .int .i64 d, .int .i64 e, .int .i64 f, .bool _ g] => some (⟨⟨⟨a, b⟩, ⟨c, d⟩, ⟨e, f⟩⟩, g⟩, none)
  | .token, [.int .i64 a, .str s, .int .i64 b] => some (⟨a, s, b⟩, none)
  | .stmt, [.int .i64 k, .str n, .str o, .int .i64 a, .int .i64 b, x, .int .i64 c, .int .i64 d, y, z, u, .bool _ e, .bool _ f] =>
    match imTerm x, imTerm y, imStr z, imInt u with
    | some x, some y, some z, some u => some (⟨k, n, o, ⟨⟨a, b⟩, x⟩, ⟨⟨c, d⟩, y⟩, z, u, e, f⟩, none)
    | _, _, _, _ => none
  | .curve, [x, .bool _ b, .int .i64 t, .bool _ p, .bool _ q, .int .i64 c, .int .i64 d, .int .i64 e, .int .i64 f] => match imPt x with
    | some xs => some (⟨xs, b, t, p, q, ⟨c, d⟩, ⟨e, f⟩⟩, none)
    | none => none
  | .ints, [x] => match imInt x with
    | some xs => some (xs, none)
    | none => none
  | .src, [x, .int .i64 a, .int .u64 b] => match imU8 x with
    | some xs => some (⟨xs, a, b⟩, none)
    | none => none
  | _, _ => none

/-- An object that the function at work holds alone. -/
inductive AObj where
  | box (t : Nat) (cs : List Cell)
  | seq (g : GT) (xs : List g.den)
  | fro (g : GT) (xs : List g.den)
  | gone

abbrev Tmps := List (Nat × AV)
abbrev Objs := List (Nat × Nat × AObj)

structure St where
  tmps : Tmps
  objs : Objs

def getT : Tmps → Nat → AV
  | [], _ => .c .und
  | (k, v) :: r, n => match Nat.beq k n with | true => v | false => getT r n

def setT : Tmps → Nat → AV → Tmps
  | [], n, v => [(n, v)]
  | (k, u) :: r, n, v => match Nat.beq k n with | true => (k, v) :: r | false => (k, u) :: setT r n v

def getO : Objs → Nat → Nat × AObj
  | [], _ => (0, .gone)
  | (k, v) :: r, n => match Nat.beq k n with | true => v | false => getO r n

def setO : Objs → Nat → Nat → AObj → Objs
  | [], n, ver, v => [(n, ver, v)]
  | (k, u) :: r, n, ver, v => match Nat.beq k n with | true => (k, ver, v) :: r | false => (k, u) :: setO r n ver v

def setOs (O : Objs) : List (Nat × Nat × AObj) → Objs
  | [] => O
  | (o, v, x) :: r => setOs (setO O o v x) r

/-! ### forcing: the same value, its outer form laid bare -/

def fNat {β : Sort _} (n : Nat) (k : Nat → β) : β :=
  match n with
  | 0 => k 0 | 1 => k 1 | 2 => k 2 | 3 => k 3 | 4 => k 4 | 5 => k 5 | 6 => k 6 | 7 => k 7 | 8 => k 8 | 9 => k 9 | 10 => k 10 | 11 => k 11 | 12 => k 12
  | n + 13 => k (n + 13)

def fCell {β : Sort _} (c : Cell) (k : Cell → β) : β :=
  match c with
  | .int a n => k (.int a n)
  | .bool true true => k (.bool true true)
  | .bool true false => k (.bool true false)
  | .bool false b => k (.bool false b)
  | .str s => k (.str s)
  | .nil => k .nil
  | .im g xs => k (.im g xs)
  | .sl o v => fNat o fun o => fNat v fun v => k (.sl o v)
  | .ptr o v off => fNat o fun o => fNat v fun v => fNat off fun off => k (.ptr o v off)
  | .aptr o v => fNat o fun o => fNat v fun v => k (.aptr o v)
  | .eptr o v i off => fNat o fun o => fNat v fun v => fNat off fun off => k (.eptr o v i off)
  | .vptr g x off => fNat off fun off => k (.vptr g x off)
  | .fn f => k (.fn f)
  | .und => k .und

def fCells {β : Sort _} : List Cell → (List Cell → β) → β
  | [], k => k []
  | c :: r, k => fCell c fun c => fCells r fun r => k (c :: r)

def fTup {β : Sort _} : List (Bool × List Cell) → (List (Bool × List Cell) → β) → β
  | [], k => k []
  | (true, c) :: r, k => fCells c fun c => fTup r fun r => k ((true, c) :: r)
  | (false, c) :: r, k => fCells c fun c => fTup r fun r => k ((false, c) :: r)

def fAV {β : Sort _} (v : AV) (k : AV → β) : β :=
  match v with
  | .c x => fCell x fun x => k (.c x)
  | .agg cs => fCells cs fun cs => k (.agg cs)
  | .tup vs => fTup vs fun vs => k (.tup vs)

def fObj {β : Sort _} (x : AObj) (k : AObj → β) : β :=
  match x with
  | .box t cs => fCells cs fun cs => k (.box t cs)
  | .seq g xs => k (.seq g xs)
  | .fro g xs => k (.fro g xs)
  | .gone => k .gone

def setTK {β : Sort _} : Tmps → Nat → AV → (Tmps → β) → β
  | [], n, v, k => k [(n, v)]
  | (i, u) :: r, n, v, k => match Nat.beq i n with | true => k ((i, v) :: r) | false => setTK r n v fun r => k ((i, u) :: r)

def setOK {β : Sort _} : Objs → Nat → Nat → AObj → (Objs → β) → β
  | [], n, ver, v, k => k [(n, ver, v)]
  | (i, u) :: r, n, ver, v, k => match Nat.beq i n with | true => k ((i, ver, v) :: r) | false => setOK r n ver v fun r => k ((i, u) :: r)

def fUs {β : Sort _} : List (Nat × Nat × AObj) → Objs → (Objs → β) → β
  | [], O, k => k O
  | (o, v, x) :: r, O, k => fNat o fun o => fNat v fun v => fObj x fun x => setOK O o v x fun O => fUs r O k

theorem fNat_eq {β : Sort _} (n : Nat) (k : Nat → β) : fNat n k = k n := by unfold fNat; split <;> rfl
theorem fCell_eq {β : Sort _} (c : Cell) (k : Cell → β) : fCell c k = k c := by unfold fCell; split <;> simp only [fNat_eq]
theorem fCells_eq {β : Sort _} (c : List Cell) (k : List Cell → β) : fCells c k = k c := by
  induction c generalizing k with
  | nil => rfl
  | cons a r ih => simp only [fCells, fCell_eq, ih]
theorem fTup_eq {β : Sort _} (c : List (Bool × List Cell)) (k : List (Bool × List Cell) → β) : fTup c k = k c := by
  induction c generalizing k with
  | nil => rfl
  | cons a r ih => obtain ⟨_ | _, b⟩ := a <;> simp only [fTup, fCells_eq, ih]
theorem fAV_eq {β : Sort _} (v : AV) (k : AV → β) : fAV v k = k v := by cases v <;> simp only [fAV, fCell_eq, fCells_eq, fTup_eq]
theorem fObj_eq {β : Sort _} (v : AObj) (k : AObj → β) : fObj v k = k v := by cases v <;> simp only [fObj, fCells_eq]
theorem setTK_eq {β : Sort _} (l : Tmps) (n : Nat) (v : AV) (k : Tmps → β) : setTK l n v k = k (setT l n v) := by
  induction l generalizing k with
  | nil => rfl
  | cons a r ih => obtain ⟨i, u⟩ := a; simp only [setTK, setT]; cases Nat.beq i n <;> simp only [ih]
theorem setOK_eq {β : Sort _} (l : Objs) (n ver : Nat) (v : AObj) (k : Objs → β) : setOK l n ver v k = k (setO l n ver v) := by
  induction l generalizing k with
  | nil => rfl
  | cons a r ih => obtain ⟨i, u⟩ := a; simp only [setOK, setO]; cases Nat.beq i n <;> simp only [ih]
theorem fUs_eq {β : Sort _} (us : List (Nat × Nat × AObj)) (O : Objs) (k : Objs → β) : fUs us O k = k (setOs O us) := by
  induction us generalizing O with
  | nil => rfl
  | cons a r ih => obtain ⟨o, v, x⟩ := a; simp only [fUs, setOs, fNat_eq, fObj_eq, setOK_eq, ih]

/-! ### the program's types -/

inductive Z where
  | int (k : IntKind) (n : Int) | bool (b : Bool) | str | nil | other
  deriving DecidableEq

def Z.cell : Z → Cell
  | .int k n => .int k n
  | .bool b => .bool true b
  | .str => .str []
  | .nil => .nil
  | .other => .und

inductive Kd where
  | int (k : IntKind) | bool | str | ptr (e : Nat) | slice (e : Nat) | struct (fs : List (Nat × Nat)) | array (n e : Nat) | other
  deriving DecidableEq

structure TI where
  size : Nat
  bytes : Nat
  kd : Kd
  zero : List Z
  g : Option GT
  deriving DecidableEq

def TI.agg (t : TI) : Bool := match t.kd with | .struct _ => true | .array _ _ => true | _ => false

inductive Tree where
  | leaf
  | node (k : Nat) (v : TI) (l r : Tree)

def Tree.get : Tree → Nat → Option TI
  | .leaf, _ => none
  | .node k v l r, n => match Nat.beq n k with
    | true => some v
    | false => match Nat.blt n k with | true => l.get n | false => r.get n

/-- What a function does: 'run' takes the objects that it may change and its arguments, and gives what must hold before, the objects behind, those that it has made behind these, and the result. -/
structure Con where
  muts : List Bool
  im : Bool
  run : List AObj → List AV → Option (Option Prop × List AObj × AV)

/-- what a part of a struct is, where structs are compared -/
inductive LK where
  | int | bool | str
  deriving DecidableEq

structure Env where
  nt : Nat
  nm : Nat
  tab : Tree
  con : Nat → Option Con
  eqt : List (Nat × List LK)
  fz : List Nat
  cuts : List Nat

def Env.g (E : Env) (t : Nat) : Option GT := match E.tab.get t with | some ti => ti.g | none => none
/-- the elements' kind of a slice type -/
def Env.eg (E : Env) (t : Nat) : Option GT := match E.tab.get t with
  | some ⟨_, _, .slice e, _, _⟩ => E.g e
  | _ => none

/-! ### one operation -/

def constC : Value → Cell
  | .int k n => .int k n
  | .bool b => .bool true b
  | .string s => .str s.data.toList
  | .slice none 0 0 => .nil
  | .func (.func f) ⟨[]⟩ ⟨[]⟩ => .fn f
  | _ => .und

def constCs : List Value → List Cell
  | [] => []
  | v :: r => constC v :: constCs r

def evO (T : Tmps) : Operand → AV
  | .tmp t => getT T t
  | .const (.agg ⟨cs⟩) => .agg (constCs cs)
  | .const v => .c (constC v)
  | .func f => .c (.fn f)
  | .global _ => .c .und

def asV (agg : Bool) (cs : List Cell) : AV := match agg with
  | true => .agg cs
  | false => match cs with | c :: _ => .c c | [] => .c .und

def notUnd : Cell → Bool
  | .und => false
  | _ => true

def allC : List Cell → Bool
  | [] => true
  | c :: r => match notUnd c with | true => allC r | false => false

def cellsOf : AV → Option (List Cell)
  | .c .und => none
  | .c x => some [x]
  | .agg cs => match allC cs with | true => some cs | false => none
  | .tup _ => none

/-- none of the updates turns this object -/
def freeOf (o : Nat) : List (Nat × Nat × AObj) → Bool
  | [] => true
  | (k, _) :: r => match Nat.beq k o with | true => false | false => freeOf o r

/-- cells with others in their place from a number on -/
def updC : List Cell → Nat → List Cell → List Cell
  | cs, _, [] => cs
  | [], _, _ :: _ => []
  | _ :: r, 0, n :: ns => n :: updC r 0 ns
  | c :: r, i + 1, n :: ns => c :: updC r i (n :: ns)

def subC : List Cell → Nat → Nat → List Cell
  | _, _, 0 => []
  | [], _, _ + 1 => []
  | c :: r, 0, n + 1 => c :: subC r 0 n
  | _ :: r, i + 1, n + 1 => subC r i (n + 1)

abbrev HO := Nat → Nat × AObj
abbrev Ups := List (Nat × Nat × AObj)
abbrev Res := Option (Option Prop × AV × Ups)

/-- the object that a reference names, if it is still the same -/
def cur (ho : HO) (o v : Nat) : AObj := match ho o with
  | (v', x) => match Nat.beq v v' with | true => x | false => .gone

def verOf (ho : HO) (o : Nat) : Nat := match ho o with | (v, _) => v

def dnat (d : Option Nat) : Nat := match d with | some d => d | none => 0

/-- a new object at the operation's own slot -/
def mk (E : Env) (d : Option Nat) (ho : HO) (p : Option Prop) (x : AObj) (ref : Nat → Nat → Cell) : Res :=
  match Nat.ble E.nm (dnat d) with
  | true => some (p, .c (ref (dnat d) (verOf ho (dnat d) + 1)), [(dnat d, verOf ho (dnat d) + 1, x)])
  | false => none

/-- a cell that goes into an element: an object that it names is held fast from then on -/
def snapC (ho : HO) : Cell → Option (Cell × Ups)
  | .sl o v => match cur ho o v with
    | .seq g xs => some (.im g xs, [(o, v, .fro g xs)])
    | .fro g xs => some (.im g xs, [])
    | _ => none
  | .ptr _ _ _ => none
  | .aptr _ _ => none
  | .eptr _ _ _ _ => none
  | .vptr _ _ _ => none
  | .fn _ => none
  | .und => none
  | c => some (c, [])

def snapCs (ho : HO) : List Cell → Option (List Cell × Ups)
  | [] => some ([], [])
  | c :: r => match snapC ho c with
    | some (c, us) => match snapCs ho r with
      | some (r, vs) => some (c :: r, us ++ vs)
      | none => none
    | none => none

def andP : Option Prop → Option Prop → Option Prop
  | none, q => q
  | p, none => p
  | some p, some q => some (p ∧ q)

/-- the list that a slice value stands for, held fast -/
def listOf (ho : HO) (g : GT) : AV → Option (List g.den)
  | .c (.im g' xs) => if h : g' = g then some (h ▸ xs) else none
  | .c .nil => some []
  | .c (.sl o v) => match cur ho o v with
    | .seq g' xs => if h : g' = g then some (h ▸ xs) else none
    | .fro g' xs => if h : g' = g then some (h ▸ xs) else none
    | _ => none
  | _ => none

def lenOf (ho : HO) : Bool → AV → Option Int
  | false, .c (.im _ xs) => some xs.length
  | false, .c .nil => some 0
  | true, .c (.str s) => some s.length
  | false, .c (.sl o v) => match cur ho o v with
    | .seq _ xs => some xs.length
    | .fro _ xs => some xs.length
    | _ => none
  | _, _ => none

def intOf : AV → Option (IntKind × Int)
  | .c (.int k n) => some (k, n)
  | _ => none

def kindEq (a b : IntKind) : Bool := decide (a = b)

def bits2 (f : (n : Nat) → BitVec n → BitVec n → BitVec n) (k : IntKind) (a b : Int) : Int :=
  k.wrap (f k.bits (BitVec.ofInt k.bits a) (BitVec.ofInt k.bits b)).toNat

def intBin (b : BinOp) (k : IntKind) (x y : Int) : Option (Option Prop × AV) :=
  match b with
  | .add => some (none, .c (.int k (k.wrap (x + y))))
  | .sub => some (none, .c (.int k (k.wrap (x - y))))
  | .mul => some (none, .c (.int k (k.wrap (x * y))))
  | .quo => some (some (y ≠ 0), .c (.int k (k.wrap (x.tdiv y))))
  | .rem => some (some (y ≠ 0), .c (.int k (x.tmod y)))
  | .and => some (none, .c (.int k (bits2 (fun _ a b => a &&& b) k x y)))
  | .or => some (none, .c (.int k (bits2 (fun _ a b => a ||| b) k x y)))
  | .xor => some (none, .c (.int k (bits2 (fun _ a b => a ^^^ b) k x y)))
  | .eql => some (none, .c (.bool false (decide (x = y))))
  | .neq => some (none, .c (.bool false (decide (x ≠ y))))
  | .lss => some (none, .c (.bool false (decide (x < y))))
  | .leq => some (none, .c (.bool false (decide (x ≤ y))))
  | .gtr => some (none, .c (.bool false (decide (x > y))))
  | .geq => some (none, .c (.bool false (decide (x ≥ y))))
  | _ => none

def shl (k : IntKind) (x y : Int) : Int := k.wrap (x * 2 ^ (min y.toNat k.bits))
def shr (k : IntKind) (x y : Int) : Int := x.fdiv (2 ^ (min y.toNat k.bits))

def strBin (b : BinOp) (x y : Bytes) : Option (Option Prop × AV) :=
  match b with
  | .add => some (some (x.length + y.length < 9223372036854775808), .c (.str (x ++ y)))
  | .eql => some (none, .c (.bool false (decide (x = y))))
  | .neq => some (none, .c (.bool false (decide (x ≠ y))))
  | .lss => some (none, .c (.bool false (Op.bytesLess x y)))
  | .leq => some (none, .c (.bool false (Op.bytesLess x y || decide (x = y))))
  | .gtr => some (none, .c (.bool false (!(Op.bytesLess x y || decide (x = y)))))
  | .geq => some (none, .c (.bool false (!Op.bytesLess x y)))
  | _ => none

/-- are two rows of plain cells one? -/
def eqCs : List Cell → List Cell → Option Bool
  | [], [] => some true
  | [.int k a], [.int k' b] => match kindEq k k' with | true => some (decide (a = b)) | false => none
  | [.bool _ a], [.bool _ b] => some (decide (a = b))
  | [.str a], [.str b] => some (decide (a = b))
  | .int k a :: r, .int k' b :: s => match kindEq k k' with
    | true => match eqCs r s with | some t => some (decide (a = b) && t) | none => none
    | false => none
  | .bool _ a :: r, .bool _ b :: s => match eqCs r s with | some t => some (decide (a = b) && t) | none => none
  | .str a :: r, .str b :: s => match eqCs r s with | some t => some (decide (a = b) && t) | none => none
  | _, _ => none

def kOk : List LK → List Cell → Bool
  | [], [] => true
  | .int :: r, .int _ _ :: s => kOk r s
  | .bool :: r, .bool _ _ :: s => kOk r s
  | .str :: r, .str _ :: s => kOk r s
  | _, _ => false

def eqtOf : List (Nat × List LK) → Nat → Option (List LK)
  | [], _ => none
  | (k, x) :: r, t => match Nat.beq k t with | true => some x | false => eqtOf r t

def binF (E : Env) (b : BinOp) (t : Nat) (x y : AV) : Option (Option Prop × AV) :=
  match x, y with
  | .c (.int k m), .c (.int k' n) => match b with
    | .shl => some (some (0 ≤ n), .c (.int k (shl k m n)))
    | .shr => some (some (0 ≤ n), .c (.int k (shr k m n)))
    | _ => match kindEq k k' with | true => intBin b k m n | false => none
  | .c (.str s), .c (.str u) => strBin b s u
  | .c (.bool _ p), .c (.bool _ q) => match E.tab.get t with
    | some ⟨_, _, .bool, _, _⟩ => match b with
      | .eql => some (none, .c (.bool false (decide (p = q))))
      | .neq => some (none, .c (.bool false (decide (p ≠ q))))
      | _ => none
    | _ => none
  | .agg cs, .agg ds => match eqtOf E.eqt t with
    | some ks => match kOk ks cs with
      | true => match eqCs cs ds with
        | some q => match b with
          | .eql => some (none, .c (.bool false q))
          | .neq => some (none, .c (.bool false (!q)))
          | _ => none
        | none => none
      | false => none
    | none => none
  | .c (.im _ xs), .c .nil => match E.tab.get t with
    | some ⟨_, _, .slice _, _, _⟩ => match b with
      | .eql => some (some (0 < xs.length), .c (.bool true false))
      | .neq => some (some (0 < xs.length), .c (.bool true true))
      | _ => none
    | _ => none
  | _, _ => none

def unF (u : UnOp) (x : AV) : Option AV :=
  match u, x with
  | .neg, .c (.int k n) => some (.c (.int k (k.wrap (0 - n))))
  | .xor, .c (.int k n) => some (.c (.int k (bits2 (fun _ a b => a ^^^ b) k (if k.signed then -1 else k.max) n)))
  | .not, .c (.bool true true) => some (.c (.bool true false))
  | .not, .c (.bool true false) => some (.c (.bool true true))
  | .not, .c (.bool false b) => some (.c (.bool false (!b)))
  | _, _ => none

def loadF (E : Env) (ho : HO) (t : Nat) (p : AV) : Res :=
  match E.tab.get t with
  | none => none
  | some ti => match p with
    | .c (.vptr g x off) => match Nat.ble (off + ti.size) (gsize g) with
      | true => some (none, asV ti.agg (subC (enc g x) off ti.size), [])
      | false => none
    | .c (.ptr o v off) => match cur ho o v with
      | .box _ cs => match Nat.ble (off + ti.size) cs.length with
        | true => some (none, asV ti.agg (subC cs off ti.size), [])
        | false => none
      | _ => none
    | .c (.eptr o v i off) => match cur ho o v with
      | .seq g xs => match Nat.ble (off + ti.size) (gsize g) with
        | true => some (none, asV ti.agg (subC (enc g (el xs i)) off ti.size), [])
        | false => none
      | _ => none
    | _ => none

def storeF (E : Env) (ho : HO) (t : Nat) (p x : AV) : Res :=
  match E.tab.get t with
  | none => none
  | some ti => match cellsOf x with
    | none => none
    | some ns => match Nat.beq ns.length ti.size with
      | false => none
      | true => match p with
        | .c (.ptr o v off) => match cur ho o v with
          | .box bt cs => match Nat.ble (off + ti.size) cs.length with
            | true => some (none, .c .und, [(o, v, .box bt (updC cs off ns))])
            | false => none
          | _ => none
        | .c (.eptr o v i off) => match cur ho o v with
          | .seq g xs => match Nat.ble (off + ti.size) (gsize g) with
            | false => none
            | true => match snapCs ho ns with
              | none => none
              | some (ns, us) => match (match freeOf o us with | true => dec g (updC (enc g (el xs i)) off ns) | false => none) with
                | none => none
                | some (y, p) => some (p, .c .und, us ++ [(o, v, .seq g (xs.set i.toNat y))])
          | _ => none
        | _ => none

def zcells : List Z → List Cell
  | [] => []
  | z :: r => z.cell :: zcells r

def fillF (E : Env) (fs : List (Nat × Nat)) : List Cell → List (Nat × AV) → Option (List Cell)
  | cs, [] => some cs
  | cs, (i, v) :: r => match fs[i]? with
    | none => none
    | some (off, t) => match E.tab.get t with
      | none => none
      | some ti => match cellsOf v with
        | none => none
        | some ns => match Nat.beq ns.length ti.size with
          | false => none
          | true => match Nat.ble (off + ns.length) cs.length with
            | false => none
            | true => fillF E fs (updC cs off ns) r

def allT (E : Env) : List (Nat × Nat) → Bool
  | [] => true
  | (_, t) :: r => match E.tab.get t with | some _ => allT E r | none => false

def evParts (ev : Operand → AV) : List (Nat × Operand) → List (Nat × AV)
  | [] => []
  | (i, x) :: r => (i, ev x) :: evParts ev r

def evs (ev : Operand → AV) : List Operand → List AV
  | [] => []
  | x :: r => ev x :: evs ev r

/-- the elements of a slice literal, all of them given, in their order -/
def elemsF (ho : HO) (g : GT) : Nat → List (Nat × AV) → Option (List g.den × Option Prop × Ups)
  | _, [] => some ([], none, [])
  | n, (i, v) :: r => match Nat.beq i n with
    | false => none
    | true => match cellsOf v with
      | none => none
      | some cs => match snapCs ho cs with
        | none => none
        | some (cs, us) => match dec g cs with
          | none => none
          | some (x, p) => match elemsF ho g (n + 1) r with
            | none => none
            | some (xs, q, vs) => some (x :: xs, andP p q, us ++ vs)

def fits (te : TI) (g : GT) : Bool := Nat.beq te.size (gsize g)

def indexF (E : Env) (ho : HO) (t : Nat) (x i : AV) : Res :=
  match i with
  | .c (.int _ n) => match E.tab.get t with
    | some ⟨_, _, .slice e, _, _⟩ => match E.tab.get e with
      | none => none
      | some te => match x with
        | .c (.im g xs) => match fits te g with
          | true => some (some (0 ≤ n ∧ n < xs.length), .c (.vptr g (el xs n) 0), [])
          | false => none
        | .c (.sl o v) => match cur ho o v with
          | .seq g xs => match fits te g with
            | true => some (some (0 ≤ n ∧ n < xs.length), .c (.eptr o v n 0), [])
            | false => none
          | .fro g xs => match fits te g with
            | true => some (some (0 ≤ n ∧ n < xs.length), .c (.vptr g (el xs n) 0), [])
            | false => none
          | _ => none
        | _ => none
    | some ⟨_, _, .array m e, _, _⟩ => match E.tab.get e with
      | none => none
      | some te => match x with
        | .c (.aptr o v) => match cur ho o v with
          | .seq g xs => match fits te g with
            | true => some (some (0 ≤ n ∧ n < xs.length ∧ xs.length = m), .c (.eptr o v n 0), [])
            | false => none
          | _ => none
        | _ => none
    | _ => none
  | _ => none

def cutL {α : Type} (xs : List α) (lo hi : Option Int) : List α :=
  match lo, hi with
  | none, none => xs
  | some l, none => xs.drop l.toNat
  | none, some h => xs.take h.toNat
  | some l, some h => (xs.take h.toNat).drop l.toNat

def cutP (n : Int) (lo hi : Option Int) : Option Prop :=
  match lo, hi with
  | none, none => none
  | some l, none => some (0 ≤ l ∧ l ≤ n)
  | none, some h => some (0 ≤ h ∧ h ≤ n)
  | some l, some h => some (0 ≤ l ∧ l ≤ h ∧ h ≤ n)

def optI : Option AV → Option (Option Int)
  | none => some none
  | some (.c (.int _ n)) => some (some n)
  | some _ => none

def optE (ev : Operand → AV) : Option Operand → Option AV
  | none => none
  | some x => some (ev x)

def sliceF (E : Env) (d : Option Nat) (ho : HO) (t : Nat) (x : AV) (lo hi : Option AV) : Res :=
  match optI lo with
  | none => none
  | some lo => match optI hi with
    | none => none
    | some hi => match E.tab.get t with
      | some ⟨_, _, .str, _, _⟩ => match x with
        | .c (.str s) => some (cutP s.length lo hi, .c (.str (cutL s lo hi)), [])
        | _ => none
      | some ⟨_, _, .slice e, _, _⟩ => match E.tab.get e with
        | none => none
        | some te => match x with
          | .c (.im g xs) => match fits te g with
            | true => some (cutP xs.length lo hi, .c (.im g (cutL xs lo hi)), [])
            | false => none
          | .c (.sl o v) => match cur ho o v with
            | .fro g xs => match fits te g with
              | true => some (cutP xs.length lo hi, .c (.im g (cutL xs lo hi)), [])
              | false => none
            | .seq g xs => match fits te g with
              | false => none
              | true => match lo, hi, (match E.fz.contains (dnat d) with | true => true | false => Nat.blt o E.nm : Bool) with
                | none, some h, false => some (cutP xs.length none (some h), .c (.sl o (v + 1)), [(o, v + 1, .seq g (xs.take h.toNat))])
                | lo, hi, _ => some (cutP xs.length lo hi, .c (.im g (cutL xs lo hi)), [(o, v, .fro g xs)])
            | _ => none
          | _ => none
      | some ⟨_, _, .array m e, _, _⟩ => match E.tab.get e with
        | none => none
        | some te => match x with
          | .c (.aptr o v) => match cur ho o v with
            | .seq g xs => match fits te g with
              | true => some (andP (some (xs.length = m)) (cutP xs.length lo hi), .c (.im g (cutL xs lo hi)), [(o, v, .fro g xs)])
              | false => none
            | _ => none
          | _ => none
      | _ => none

def byteAt (s : Bytes) (i : Int) : Int := ((el s i).toNat : Int)

def isStr (E : Env) (t : Nat) : Bool := match E.tab.get t with
  | some ⟨_, _, .str, _, _⟩ => true
  | _ => false

def isSl (E : Env) (t : Nat) : Bool := match E.tab.get t with
  | some ⟨_, _, .slice _, _, _⟩ => true
  | some ⟨_, _, .str, _, _⟩ => true
  | _ => false

def appendF (E : Env) (d : Option Nat) (ho : HO) (t t2 : Nat) (s x : AV) : Res :=
  match E.eg t, isSl E t2 with
  | none, _ => none
  | some _, false => none
  | some g, true => match (match x with | .c (.str b) => (if h : GT.u8 = g then some (h ▸ b) else none : Option (List g.den)) | x => listOf ho g x) with
    | none => none
    | some ys => match s with
      | .c .nil => mk E d ho (some (ys.length < 4294967296)) (.seq g ys) Cell.sl
      | .c (.sl o v) => match cur ho o v with
        | .seq g' xs => match Nat.ble E.nm o with
          | false => none
          | true => if h : g' = g then some (some (xs.length + ys.length < 4294967296), .c (.sl o (v + 1)), [(o, v + 1, .seq g ((h ▸ xs) ++ ys))]) else none
        | _ => none
      | _ => none

def convF (E : Env) (ho : HO) (s t : Nat) (x : AV) : Res :=
  match E.tab.get s with
  | none => none
  | some si => match E.tab.get t with
    | none => none
    | some ti => match ti.kd with
      | .int k => match si.kd, x with
        | .int _, .c (.int _ n) => some (none, .c (.int k (k.wrap n)), [])
        | _, _ => none
      | .str => match si.kd with
        | .str => match x with
          | .c (.str b) => some (none, .c (.str b), [])
          | _ => none
        | .slice e => match E.tab.get e with
          | some ⟨_, _, .int .u8, _, _⟩ => match listOf ho .u8 x with
            | some xs => some (none, .c (.str xs), [])
            | none => none
          | _ => none
        | _ => none
      | _ => none

/-! ### calls -/

/-- an argument that the callee only reads -/
def readC (E : Env) (ho : HO) : Cell → Option Cell
  | .sl o v => match cur ho o v with
    | .seq g xs => some (.im g xs)
    | .fro g xs => some (.im g xs)
    | _ => none
  | .ptr o v off => match cur ho o v with
    | .box t cs => match E.g t with
      | some g => match snapCs ho cs with
        | some (cs, _) => match dec g cs with
          | some (x, none) => some (.vptr g x off)
          | _ => none
        | none => none
      | none => none
    | _ => none
  | .eptr o v i off => match cur ho o v with
    | .seq g xs => some (.vptr g (el xs i) off)
    | _ => none
  | .int k n => some (.int k n)
  | .bool _ b => some (.bool false b)
  | .str s => some (.str s)
  | .nil => some .nil
  | .im g xs => some (.im g xs)
  | .vptr g x off => some (.vptr g x off)
  | .fn f => some (.fn f)
  | _ => none

def readCs (E : Env) (ho : HO) : List Cell → Option (List Cell)
  | [] => some []
  | c :: r => match readC E ho c with
    | some c => match readCs E ho r with
      | some r => some (c :: r)
      | none => none
    | none => none

/-- the value of a type, as the contracts want it: a nil slice is an empty list -/
def nrm (E : Env) (t : Nat) (cs : List Cell) : Option (List Cell) :=
  match E.tab.get t with
  | some ⟨_, _, .slice e, _, _⟩ => match cs with
    | [.nil] => match E.g e with | some g => some [.im g []] | none => none
    | cs => some cs
  | some ⟨_, _, .struct _, _, some g⟩ => match dec g cs with
    | some (x, none) => some (enc g x)
    | _ => none
  | _ => some cs

def readA (E : Env) (ho : HO) (t : Nat) (v : AV) : Option AV :=
  match v with
  | .c x => match readC E ho x with
    | some x => match nrm E t [x] with
      | some [x] => some (.c x)
      | _ => none
    | none => none
  | .agg cs => match readCs E ho cs with
    | some cs => match nrm E t cs with
      | some cs => some (.agg cs)
      | none => none
    | none => none
  | .tup _ => none

def pureC : Cell → Bool
  | .int _ _ => true
  | .bool _ _ => true
  | .str _ => true
  | .nil => true
  | .im _ _ => true
  | .fn _ => true
  | _ => false

def pureCs : List Cell → Bool
  | [] => true
  | c :: r => match pureC c with | true => pureCs r | false => false

/-- an argument that the callee may change: its objects get the numbers that follow -/
def mutC (ho : HO) (M : List (Nat × Nat × AObj)) : Cell → Option (Cell × List (Nat × Nat × AObj))
  | .sl o v => match cur ho o v with
    | .seq g xs => some (.sl M.length 0, M ++ [(o, v, .seq g xs)])
    | _ => none
  | .ptr o v off => match cur ho o v with
    | .box t cs => match pureCs cs with
      | true => some (.ptr M.length 0 off, M ++ [(o, v, .box t cs)])
      | false => none
    | _ => none
  | .int k n => some (.int k n, M)
  | .bool _ b => some (.bool false b, M)
  | .str s => some (.str s, M)
  | .im g xs => some (.im g xs, M)
  | .nil => some (.nil, M)
  | .fn f => some (.fn f, M)
  | _ => none

def mutCs (ho : HO) : List (Nat × Nat × AObj) → List Cell → Option (List Cell × List (Nat × Nat × AObj))
  | M, [] => some ([], M)
  | M, c :: r => match mutC ho M c with
    | some (c, M) => match mutCs ho M r with
      | some (r, M) => some (c :: r, M)
      | none => none
    | none => none

def mutA (ho : HO) (M : List (Nat × Nat × AObj)) : AV → Option (AV × List (Nat × Nat × AObj))
  | .c x => match mutC ho M x with
    | some (x, M) => some (.c x, M)
    | none => none
  | .agg cs => match mutCs ho M cs with
    | some (cs, M) => some (.agg cs, M)
    | none => none
  | .tup _ => none

def argsF (E : Env) (ho : HO) : List (Nat × Nat × AObj) → List Bool → List Nat → List AV → Option (List AV × List (Nat × Nat × AObj))
  | M, _, _, [] => some ([], M)
  | M, true :: ms, _ :: ts, v :: r => match mutA ho M v with
    | some (v, M) => match argsF E ho M ms ts r with
      | some (r, M) => some (v :: r, M)
      | none => none
    | none => none
  | M, _ :: ms, t :: ts, v :: r => match readA E ho t v with
    | some v => match argsF E ho M ms ts r with
      | some (r, M) => some (v :: r, M)
      | none => none
    | none => none
  | M, [], t :: ts, v :: r => match readA E ho t v with
    | some v => match argsF E ho M [] ts r with
      | some (r, M) => some (v :: r, M)
      | none => none
    | none => none
  | _, _, [], _ :: _ => none

/-- the numbers that new objects get -/
def nid (d : Nat) : Nat → Nat
  | 0 => d
  | j + 1 => 1000 * (j + 1) + d

/-- references of a result, renamed into the caller's numbers -/
def renC (ho : HO) (d : Nat) (M : List (Nat × Nat × AObj)) : Cell → Cell
  | .sl j _ => match M[j]? with
    | some (o, v, _) => .sl o v
    | none => .sl (nid d (j - M.length)) (verOf ho (nid d (j - M.length)) + 1)
  | .ptr j _ off => match M[j]? with
    | some (o, v, _) => .ptr o v off
    | none => .ptr (nid d (j - M.length)) (verOf ho (nid d (j - M.length)) + 1) off
  | c => c

def renCs (ho : HO) (d : Nat) (M : List (Nat × Nat × AObj)) : List Cell → List Cell
  | [] => []
  | c :: r => renC ho d M c :: renCs ho d M r

def renT (ho : HO) (d : Nat) (M : List (Nat × Nat × AObj)) : List (Bool × List Cell) → List (Bool × List Cell)
  | [] => []
  | (a, c) :: r => (a, renCs ho d M c) :: renT ho d M r

def renA (ho : HO) (d : Nat) (M : List (Nat × Nat × AObj)) : AV → AV
  | .c x => .c (renC ho d M x)
  | .agg cs => .agg (renCs ho d M cs)
  | .tup vs => .tup (renT ho d M vs)

def renO (ho : HO) (d : Nat) (M : List (Nat × Nat × AObj)) : AObj → AObj
  | .box t cs => .box t (renCs ho d M cs)
  | x => x

/-- the new objects' numbers are none of the old ones' -/
def newChk (d : Nat) (M : List (Nat × Nat × AObj)) : Nat → List AObj → Bool
  | _, [] => true
  | j, _ :: r => match freeOf (nid d j) M with | true => newChk d M (j + 1) r | false => false

/-- the objects behind a call: those that were handed over, as they are then, and the new ones -/
def backM (ho : HO) (d : Nat) (M0 : List (Nat × Nat × AObj)) : List (Nat × Nat × AObj) → List AObj → Option (List AObj × Ups)
  | [], xs => some (xs, [])
  | (o, v, _) :: M, x :: xs => match backM ho d M0 M xs with
    | some (r, us) => some (r, (o, v, renO ho d M0 x) :: us)
    | none => none
  | _ :: _, [] => none

def newM (ho : HO) (d : Nat) (M0 : List (Nat × Nat × AObj)) : Nat → List AObj → Ups
  | _, [] => []
  | j, x :: xs => (nid d j, verOf ho (nid d j) + 1, renO ho d M0 x) :: newM ho d M0 (j + 1) xs

def objsOfM : List (Nat × Nat × AObj) → List AObj
  | [] => []
  | (_, _, x) :: r => x :: objsOfM r

def distinct : List (Nat × Nat × AObj) → Bool
  | [] => true
  | (o, _, _) :: r => match freeOf o r with | true => distinct r | false => false

/-- a call whose result may hold parts of its arguments: what was read is held fast -/
def freezeC (ho : HO) : Cell → Ups
  | .sl o v => match cur ho o v with
    | .seq g xs => [(o, v, .fro g xs)]
    | _ => []
  | .ptr o v _ => match cur ho o v with
    | .box _ cs => match snapCs ho cs with
      | some (_, us) => us
      | none => []
    | _ => []
  | .eptr o v _ _ => match cur ho o v with
    | .seq g xs => [(o, v, .fro g xs)]
    | _ => []
  | _ => []

def freezeCs (ho : HO) : List Cell → Ups
  | [] => []
  | c :: r => freezeC ho c ++ freezeCs ho r

def freezeA (ho : HO) : List AV → Ups
  | [] => []
  | .c x :: r => freezeC ho x ++ freezeA ho r
  | .agg cs :: r => freezeCs ho cs ++ freezeA ho r
  | .tup _ :: r => freezeA ho r

/-- no argument that is only read names an object that the call may change -/
def apartC (M : List (Nat × Nat × AObj)) : Cell → Bool
  | .sl o _ => freeOf o M
  | .ptr _ _ _ => false
  | .aptr _ _ => false
  | .eptr _ _ _ _ => false
  | .vptr _ _ _ => false
  | _ => true

def apartCs (M : List (Nat × Nat × AObj)) : List Cell → Bool
  | [] => true
  | c :: r => match apartC M c with | true => apartCs M r | false => false

def apartA (M : List (Nat × Nat × AObj)) : List Bool → List AV → Bool
  | true :: ms, _ :: r => apartA M ms r
  | false :: ms, .c x :: r => match apartC M x with | true => apartA M ms r | false => false
  | [], .c x :: r => match apartC M x with | true => apartA M [] r | false => false
  | false :: ms, .agg cs :: r => match apartCs M cs with | true => apartA M ms r | false => false
  | [], .agg cs :: r => match apartCs M cs with | true => apartA M [] r | false => false
  | _, .tup _ :: _ => false
  | _, [] => true

def gflat : GT → Bool
  | .int | .u8 | .str | .bool | .pt | .frac | .term | .cubic | .quad | .knot | .segm | .token => true
  | _ => false

/-- a result's cell: its references name objects of the call -/
def wfC (im : Bool) (n : Nat) : Cell → Bool
  | .int _ _ => true
  | .bool _ _ => true
  | .str _ => true
  | .nil => true
  | .fn _ => true
  | .im _ _ => im
  | .sl j _ => Nat.blt j n
  | .ptr j _ _ => Nat.blt j n
  | _ => false

def wfCs (im : Bool) (n : Nat) : List Cell → Bool
  | [] => true
  | c :: r => match wfC im n c with | true => wfCs im n r | false => false

def wfT (im : Bool) (n : Nat) : List (Bool × List Cell) → Bool
  | [] => true
  | (_, c) :: r => match wfCs im n c with | true => wfT im n r | false => false

def wfA (im : Bool) (n : Nat) : AV → Bool
  | .c x => wfC im n x
  | .agg cs => wfCs im n cs
  | .tup vs => wfT im n vs

def wfO (im : Bool) (n : Nat) : AObj → Bool
  | .box _ cs => wfCs im n cs
  | .seq g _ => match im with | true => true | false => gflat g
  | _ => false

def wfOs (im : Bool) (n : Nat) : List AObj → Bool
  | [] => true
  | x :: r => match wfO im n x with | true => wfOs im n r | false => false

def lenN {α : Type} : List α → Nat
  | [] => 0
  | _ :: r => lenN r + 1

def callChk (C : Con) (M : List (Nat × Nat × AObj)) (vs : List AV) : Bool :=
  match M with
  | [] => true
  | M => match C.im with
    | true => false
    | false => match distinct M with | true => apartA M C.muts vs | false => false

def outChk (C : Con) (Ms : List AObj) (r : AV) : Bool :=
  match wfOs C.im (lenN Ms) Ms with | true => wfA C.im (lenN Ms) r | false => false

def callF (E : Env) (d : Option Nat) (ho : HO) (f : Nat) (ts : List Nat) (vs : List AV) : Res :=
  match E.con f with
  | none => none
  | some C => match argsF E ho [] C.muts ts vs with
    | none => none
    | some (vs', M) => match callChk C M vs with
      | false => none
      | true => match C.run (objsOfM M) vs' with
        | none => none
        | some (p, Ms, r) => match outChk C Ms r with
          | false => none
          | true => match (match Nat.ble E.nm (dnat d) with | true => backM ho (dnat d) M M Ms | false => none) with
            | none => none
            | some (news, us) => match newChk (dnat d) M 0 news with
              | true => some (p, renA ho (dnat d) M r, (match C.im with | true => freezeA ho vs | false => []) ++ (us ++ newM ho (dnat d) M 0 news))
              | false => none

def tyL (ts : Array TypeId) : List Nat := match ts with | ⟨l⟩ => l

def minI : List AV → Option Int
  | [.c (.int .i64 n)] => some n
  | .c (.int .i64 n) :: r => match minI r with | some m => some (if n ≤ m then n else m) | none => none
  | _ => none

def flat (g : GT) : List g.den → List Cell
  | [] => []
  | x :: r => enc g x ++ flat g r

def zle : Z → Cell → Bool
  | .int k n, .int k' n' => match kindEq k k' with | true => decide (n = n') | false => false
  | .bool b, .bool _ b' => match b, b' with | true, true => true | false, false => true | _, _ => false
  | .str, .str [] => true
  | .nil, .im _ [] => true
  | _, _ => false

def zles : List Z → List Cell → Bool
  | [], [] => true
  | a :: r, b :: s => match zle a b with | true => zles r s | false => false
  | _, _ => false

def stepF (E : Env) (d : Option Nat) (op : Op) (ev : Operand → AV) (ho : HO) : Res :=
  match op with
  | .move x => some (none, ev x, [])
  | .assign x => some (none, ev x, [])
  | .pick c a b => match ev c with
    | .c (.bool true true) => some (none, ev a, [])
    | .c (.bool true false) => some (none, ev b, [])
    | .c (.bool false q) => match ev a, ev b with
      | .c (.bool _ x), .c (.bool _ y) => some (none, .c (.bool false (if q then x else y)), [])
      | _, .c .und => some (some (q = true), ev a, [])
      | _, .tup [] => some (some (q = true), ev a, [])
      | .c .und, _ => some (some (q = false), ev b, [])
      | .tup [], _ => some (some (q = false), ev b, [])
      | _, _ => none
    | _ => none
  | .alloc t => match E.tab.get t with
    | none => none
    | some ti => match ti.kd with
      | .array n e => match (match E.g e with | some g => (match zles ti.zero (flat g (List.replicate n (dflt g))) with | true => some g | false => none) | none => none : Option GT) with
        | some g => mk E d ho (some (n < 4294967296)) (.seq g (List.replicate n (dflt g))) Cell.aptr
        | none => none
      | _ => mk E d ho none (.box t (zcells ti.zero)) fun o v => Cell.ptr o v 0
  | .box t x => match cellsOf (ev x) with
    | some cs => mk E d ho none (.box t cs) fun o v => Cell.ptr o v 0
    | none => none
  | .build t ⟨ps⟩ => match E.tab.get t with
    | some ⟨_, _, .struct fs, z, _⟩ => match allT E fs with
      | true => match fillF E fs (zcells z) (evParts ev ps) with
        | some cs => some (none, .agg cs, [])
        | none => none
      | false => none
    | _ => none
  | .buildSlice t n ⟨ps⟩ => match E.eg t with
    | none => none
    | some g => match Nat.beq n ps.length with
      | false => none
      | true => match elemsF ho g 0 (evParts ev ps) with
        | none => none
        | some (xs, p, us) => match (match Nat.ble E.nm (dnat d) with | true => (match Nat.ble n 1000000 with | true => freeOf (dnat d) us | false => false) | false => false : Bool) with
          | true => some (p, .c (.sl (dnat d) (verOf ho (dnat d) + 1)), us ++ [(dnat d, verOf ho (dnat d) + 1, .seq g xs)])
          | false => none
  | .load t a => loadF E ho t (ev a)
  | .store t a x => storeF E ho t (ev a) (ev x)
  | .nilCheck x => match ev x with
    | .c (.ptr o v off) => match cur ho o v with
      | .box _ _ => some (none, .c (.ptr o v off), [])
      | _ => none
    | .c (.aptr o v) => match cur ho o v with
      | .seq _ _ => some (none, .c (.aptr o v), [])
      | _ => none
    | .c (.eptr o v i off) => match cur ho o v with
      | .seq _ _ => some (none, .c (.eptr o v i off), [])
      | _ => none
    | .c (.vptr g x off) => some (none, .c (.vptr g x off), [])
    | .c (.fn f) => some (none, .c (.fn f), [])
    | _ => none
  | .binOp b t x y _ => match binF E b t (ev x) (ev y) with
    | some (p, v) => some (p, v, [])
    | none => none
  | .unOp u _ x => match unF u (ev x) with
    | some v => some (none, v, [])
    | none => none
  | .convert s t x => convF E ho s t (ev x)
  | .makeFunc (.func f) ⟨[]⟩ ⟨[]⟩ => some (none, .c (.fn f), [])
  | .makeSlice t l c => match E.eg t with
    | none => none
    | some g => match ev l, ev c with
      | .c (.int _ l), .c (.int _ c) => mk E d ho (some (0 ≤ l ∧ l ≤ c ∧ c < 4294967296)) (.seq g (List.replicate l.toNat (dflt g))) Cell.sl
      | _, _ => none
  | .slice t x lo hi none => sliceF E d ho t (ev x) (optE ev lo) (optE ev hi)
  | .fieldAddr s x f => match E.tab.get s with
    | some ⟨_, _, .struct fs, _, _⟩ => match fs[f]? with
      | some (fo, ft) => match E.tab.get ft with
        | none => none
        | some fi => match Nat.beq fi.size 0 with
          | true => none
          | false => match ev x with
            | .c (.ptr o v off) => match cur ho o v with
              | .box _ _ => some (none, .c (.ptr o v (off + fo)), [])
              | _ => none
            | .c (.eptr o v i off) => match cur ho o v with
              | .seq _ _ => some (none, .c (.eptr o v i (off + fo)), [])
              | _ => none
            | .c (.vptr g x off) => some (none, .c (.vptr g x (off + fo)), [])
            | _ => none
      | none => none
    | _ => none
  | .field s x f => match E.tab.get s with
    | some ⟨_, _, .struct fs, _, _⟩ => match fs[f]? with
      | some (fo, ft) => match E.tab.get ft with
        | none => none
        | some fi => match ev x with
          | .agg cs => match Nat.ble (fo + fi.size) cs.length with
            | true => some (none, asV fi.agg (subC cs fo fi.size), [])
            | false => none
          | _ => none
      | none => none
    | _ => none
  | .indexAddr t x i => indexF E ho t (ev x) (ev i)
  | .index t x i => match E.tab.get t with
    | some ⟨_, _, .str, _, _⟩ => match ev x, ev i with
      | .c (.str s), .c (.int _ n) => some (some (0 ≤ n ∧ n < s.length), .c (.int .u8 (byteAt s n)), [])
      | _, _ => none
    | _ => none
  | .extract t i => match ev t with
    | .tup vs => match vs[i]? with
      | some (a, cs) => some (none, asV a cs, [])
      | none => none
    | _ => none
  | .call ⟨.builtin .len, ⟨[x]⟩, ⟨[t]⟩⟩ => match isSl E t with
    | true => match lenOf ho (isStr E t) (ev x) with
      | some n => some (none, .c (.int .i64 n), [])
      | none => none
    | false => none
  | .call ⟨.builtin .append, ⟨[s, x]⟩, ⟨[t, t2]⟩⟩ => appendF E d ho t t2 (ev s) (ev x)
  | .call ⟨.builtin .min, ⟨[x, y]⟩, _⟩ => match ev x, ev y with
    | .c (.int .i64 a), .c (.int .i64 b) => some (none, .c (.int .i64 (min a b)), [])
    | _, _ => none
  | .call ⟨.builtin .max, ⟨[x, y]⟩, _⟩ => match ev x, ev y with
    | .c (.int .i64 a), .c (.int .i64 b) => some (none, .c (.int .i64 (max a b)), [])
    | _, _ => none
  | .call ⟨.value (.func f), ⟨xs⟩, ts⟩ => callF E d ho f (tyL ts) (evs ev xs)
  | .call ⟨.value (.tmp t), ⟨xs⟩, ts⟩ => match ev (.tmp t) with
    | .c (.fn f) => callF E d ho f (tyL ts) (evs ev xs)
    | _ => none
  | _ => none

/-! ### code -/

/-- what must hold, and holds from then on -/
structure Pre (p : Prop) : Prop where
  out : p

def obl (p : Option Prop) (k : Prop) : Prop := match p with | none => k | some p => Pre p ∧ (p → k)

inductive Ex where
  | normal | exit (id : Nat) | ret

def putK (E : Env) (T : Tmps) (d : Option Nat) (v : AV) (k : Tmps → Prop) : Prop :=
  match d with
  | some d => match Nat.blt d E.nt with | true => setTK T d v k | false => False
  | none => k T

/-- what is known for nothing: a list in memory has no more elements than memory holds -/
def factF (op : Op) (ev : Operand → AV) (ho : HO) : Option Prop := match op with
  | .call ⟨.builtin .len, ⟨[x]⟩, _⟩ => match ev x with
    | .c (.im _ xs) => some (xs.length ≤ 9223372036854775807)
    | .c (.sl o v) => match cur ho o v with
      | .seq _ xs => some (xs.length ≤ 9223372036854775807)
      | .fro _ xs => some (xs.length ≤ 9223372036854775807)
      | _ => none
    | _ => none
  | _ => none

def fact (p : Option Prop) (k : Prop) : Prop := match p with | none => k | some q => q → k

def doK (E : Env) (o : Oper) : St → (St → Prop) → Prop
  | ⟨T, O⟩, k => match stepF E o.dst o.op (evO T) (getO O) with
    | none => False
    | some (p, v, us) => fact (factF o.op (evO T) (getO O)) <| obl p <| fAV v fun v => fUs us O fun O => putK E T o.dst v fun T => k ⟨T, O⟩

/-- the slot that a guard looks at -/
def gslot (ops : List Oper) (j : Nat) : Option Nat := match ops[j]? with | some o => o.dst | none => none

def skipK (E : Env) (T : Tmps) (O : Objs) (o : Oper) (k : St → Prop) : Prop := putK E T o.dst (.tup []) fun T => k ⟨T, O⟩

def stepK (E : Env) (all : List Oper) (o : Oper) : St → (St → Prop) → Prop
  | ⟨T, O⟩, k => match o.guard with
  | none => doK E o ⟨T, O⟩ k
  | some (j, want) => match gslot all j with
    | none => False
    | some s => match getT T s with
      | .c (.bool true b) => match b, want with
        | true, true => doK E o ⟨T, O⟩ k
        | false, false => doK E o ⟨T, O⟩ k
        | true, false => skipK E T O o k
        | false, true => skipK E T O o k
      | .c (.bool false b) => match want with
        | true => (b = true → setTK T s (.c (.bool true true)) fun T => doK E o ⟨T, O⟩ k) ∧ (b = false → setTK T s (.c (.bool true false)) fun T => skipK E T O o k)
        | false => (b = false → setTK T s (.c (.bool true false)) fun T => doK E o ⟨T, O⟩ k) ∧ (b = true → setTK T s (.c (.bool true true)) fun T => skipK E T O o k)
      | .tup [] => skipK E T O o k
      | _ => False

/-- (by the recursor itself: the kernel and whnf then come to one and the same form) -/
noncomputable def runK (E : Env) (all : List Oper) (ops : List Oper) : St → (St → Prop) → Prop :=
  @List.rec Oper (fun _ => St → (St → Prop) → Prop) (fun S k => k S) (fun o _ ih S k => stepK E all o S fun S => ih S k) ops

theorem runK_nil (E : Env) (all : List Oper) (S : St) (k : St → Prop) : runK E all [] S k = k S := rfl
theorem runK_cons (E : Env) (all : List Oper) (o : Oper) (r : List Oper) (S : St) (k : St → Prop) : runK E all (o :: r) S k = stepK E all o S fun S => runK E all r S k := rfl

end GV
