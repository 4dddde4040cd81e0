/- An exact run of the program's code: what each value is is told whole, ghosts stand for what is not known. The definitions alone. No condition. -/
import Derived.Test.YtdbbchgbgdbhbaaGreatDoorProg
set_option linter.unusedVariables false
namespace Go.Proofs.YtdbbchgbgdbhbaaGreatDoor.Xe
open Go

/-! ### A map from numbers -/
inductive Tr (α : Type) where
  | e
  | n (v : Option α) (l r : Tr α)
  deriving Inhabited

namespace Tr
variable {α : Type}

def get : Tr α → Nat → Option α
  | .e, _ => none
  | .n v l r, k =>
    match k with
    | 0 => v
    | k' + 1 => match k' % 2 with | 0 => get l (k' / 2) | _ => get r (k' / 2)

def node : Tr α → Option α × Tr α × Tr α
  | .e => (none, .e, .e)
  | .n v l r => (v, l, r)

/-- The first number is fuel. -/
def setF : Nat → Tr α → Nat → Option α → Tr α
  | 0, t, _, _ => t
  | f + 1, t, k, x =>
    match t.node with
    | (v, l, r) =>
      match k with
      | 0 => .n x l r
      | k' + 1 => match k' % 2 with | 0 => .n v (setF f l (k' / 2) x) r | _ => .n v l (setF f r (k' / 2) x)

def set (t : Tr α) (k : Nat) (x : Option α) : Tr α := setF (k + 1) t k x
end Tr

/-- A number: known, a ghost, or what comes of two. -/
inductive IE where
  | lit (n : Int)
  | g (i : Nat)
  | ar (op : BinOp) (k : IntKind) (a b : IE)
  deriving Inhabited

/-- A text: known, a ghost, or one behind the other. -/
inductive SE where
  | lit (l : List Nat)
  | g (i : Nat)
  | cat (a b : SE)
  deriving Inhabited

def eqN : List Nat → List Nat → Bool
  | [], [] => true
  | a :: x, b :: y => match Nat.beq a b with | true => eqN x y | false => false
  | _, _ => false

def eqZ : Int → Int → Bool
  | .ofNat a, .ofNat b => Nat.beq a b
  | .negSucc a, .negSucc b => Nat.beq a b
  | _, _ => false

def IE.eq : IE → IE → Bool
  | .lit a, .lit b => eqZ a b
  | .g a, .g b => Nat.beq a b
  | .ar o k a b, .ar o' k' a' b' => o == o' && k == k' && IE.eq a a' && IE.eq b b'
  | _, _ => false

def SE.eq : SE → SE → Bool
  | .lit a, .lit b => eqN a b
  | .g a, .g b => Nat.beq a b
  | .cat a b, .cat a' b' => SE.eq a a' && SE.eq b b'
  | _, _ => false

/-- What a cell holds. -/
inductive C where
  | i (k : IntKind) (e : IE)
  | b (b : Bool)
  | s (s : SE)
  | nilS
  | sl (id off n w : Nat)
  | nilP
  | p (id off : Nat)
  | nilI
  | nilF
  | f (f : FuncId) (cs : List C)
  | x (i : Nat)
  | u
  deriving Inhabited

/-- What a value is. -/
inductive V where
  | c (x : C)
  | agg (l : List C)
  | tup (l : List V)
  | u
  deriving Inhabited

/-- A block: of which type the elements are, how many cells each, the cells that are known (a row may have more behind). -/
structure Blk where
  elem : TypeId
  cells : List C
  deriving Inhabited

abbrev Hp := Tr Blk

inductive TD where
  | int (k : IntKind)
  | bool
  | string
  | slice (e : TypeId)
  | struct (fs : List (Nat × TypeId))
  | ptr
  | func
  | iface
  | other
  deriving Inhabited

structure TI where
  size : Nat
  desc : TD
  zero : List C
  deriving Inhabited

def TI.agg (i : TI) : Bool := match i.desc with | .struct _ => true | _ => false

/-- What is given of ghosts: comparisons of numbers, numbers' values. -/
structure Gam where
  ci : List (BinOp × IE × IE × Bool)
  vi : List (IE × Int)
  deriving Inhabited

structure Cx where
  tys : Tr TI
  gam : Gam
  deriving Inhabited

def Cx.ty (cx : Cx) (t : TypeId) : Option TI := match Nat.ble 512 t with | true => none | false => cx.tys.get t

def lkT : List (Nat × V) → Nat → V
  | [], _ => .u
  | (k, v) :: r, t => match Nat.beq k t with | true => v | false => lkT r t

/-! ### Numbers, texts -/
def litCmp (op : BinOp) (a b : Int) : Option Bool :=
  match op with
  | .lss => some (decide (a < b))
  | .leq => some (decide (a ≤ b))
  | .gtr => some (decide (b < a))
  | .geq => some (decide (b ≤ a))
  | .eql => some (eqZ a b)
  | .neq => some (!eqZ a b)
  | _ => none

def factI (op : BinOp) (a b : IE) : List (BinOp × IE × IE × Bool) → Option Bool
  | [] => none
  | (o, x, y, r) :: l => if o == op && x.eq a && y.eq b then some r else factI op a b l

def cmpI (g : Gam) (op : BinOp) : IE → IE → Option Bool
  | .lit a, .lit b => litCmp op a b
  | a, b =>
    match factI op a b g.ci with
    | some r => some r
    | none => if a.eq b then (match op with | .eql => some true | .neq => some false | _ => none) else none

def valI (a : IE) : List (IE × Int) → IE
  | [] => a
  | (x, n) :: l => if x.eq a then .lit n else valI a l

def arI (g : Gam) (op : BinOp) (k : IntKind) : IE → IE → Option IE
  | .lit a, .lit b =>
    match op with
    | .add => some (.lit (k.wrap (a + b)))
    | .sub => some (.lit (k.wrap (a - b)))
    | .mul => some (.lit (k.wrap (a * b)))
    | _ => none
  | a, b =>
    match op with
    | .add | .sub | .mul => some (valI (.ar op k a b) g.vi)
    | .rem => match b with | .lit n => if n = 0 then none else some (valI (.ar op k a b) g.vi) | _ => none
    | _ => none

def neg (r : Bool) : BinOp → Option C
  | .eql => some (.b r)
  | .neq => some (.b (!r))
  | _ => none

/-- How long a text may be. -/
def SE.bnd : SE → Nat
  | .lit l => l.length
  | .g _ => 100
  | .cat a b => a.bnd + b.bnd

def bytesOk (l : List Nat) : Bool := l.all fun b => Nat.ble b 255

def ptrT (cx : Cx) (t : TypeId) : Bool := match cx.ty t with | some i => (match i.desc with | .ptr => true | _ => false) | none => false
def slcT (cx : Cx) (t : TypeId) : Bool := match cx.ty t with | some i => (match i.desc with | .slice _ => true | _ => false) | none => false

def binC (cx : Cx) (t : TypeId) (op : BinOp) : C → C → Option C
  | .i k a, .i k' b => if k == k' then (match cmpI cx.gam op a b with | some r => some (.b r) | none => (arI cx.gam op k a b).map (.i k)) else none
  | .s a, .s b =>
    match op with
    | .add => if a.bnd + b.bnd ≤ 100000 then some (.s (.cat a b)) else none
    | op => match a, b with | .lit x, .lit y => if bytesOk x && bytesOk y then neg (eqN x y) op else none | _, _ => none
  | .nilP, .nilP => if ptrT cx t then neg true op else none
  | .nilS, .nilS => if slcT cx t then neg true op else none
  | .p .., .nilP => if ptrT cx t then neg false op else none
  | _, _ => none

/-! ### Operands -/
def constC : Value → Option C
  | .bool b => some (.b b)
  | .int k n => some (.i k (.lit n))
  | .string s => some (.s (.lit (s.data.toList.map UInt8.toNat)))
  | .slice none 0 0 => some .nilS
  | .pointer none => some .nilP
  | .nilIface => some .nilI
  | .nilFunc => some .nilF
  | _ => none

def constV : Value → V
  | .agg cs => match cs.toList.mapM constC with | some l => .agg l | none => .u
  | v => match constC v with | some c => .c c | none => .u

def opV (tm : List (Nat × V)) : Operand → V
  | .tmp t => lkT tm t
  | .const v => constV v
  | .func f => .c (.f f [])
  | .global _ => .u

def cellsOf : V → Option (List C)
  | .c x => some [x]
  | .agg l => some l
  | _ => none

def ofCells (agg : Bool) (l : List C) : Option V :=
  match agg, l with
  | true, l => some (.agg l)
  | false, [x] => some (.c x)
  | _, _ => none

def cut (off n : Nat) (l : List C) : Option (List C) := match Nat.ble (off + n) l.length with | true => some ((l.drop off).take n) | false => none
def over (l : List C) (off : Nat) (x : List C) : List C := l.take off ++ x ++ l.drop (off + x.length)

abbrev Upd := List (Nat × Option Blk)
def apply (hp : Hp) : Upd → Hp
  | [] => hp
  | (id, b) :: r => (apply hp r).set id b

/-- What an operation gives. -/
inductive Out where
  | val (v : V) (upd : Upd) (nx : Nat)
  | call (f : FuncId) (args : List V)
  | dfr (f : FuncId) (args : List V)

def small : Nat := 2000

abbrev Rd := Nat → Option Blk

/-- The cells of a slice. -/
def row (rd : Rd) : C → Option (List C × Nat × Nat)
  | .nilS => some ([], 0, 0)
  | .sl id off n w => (rd id).bind fun b => (cut off (n * w) b.cells).map fun l => (l, n, w)
  | _ => none

def appV (cx : Cx) (rd : Rd) (nx : Nat) (e : TypeId) (a b : C) : Option Out :=
  (cx.ty e).bind fun ie =>
    (row rd b).bind fun r =>
      match r.2.1 with
      | 0 => match a with
        | .nilS => some (.val (.c .nilS) [] nx)
        | .sl id off n w => some (.val (.c (.sl id off n w)) [] nx)
        | _ => none
      | _ + 1 =>
        if r.2.2 = ie.size then
          match a with
          | .nilS => if r.2.1 ≤ small then some (.val (.c (.sl nx 0 r.2.1 ie.size)) [(nx, some { elem := e, cells := r.1 })] (nx + 1)) else none
          | .sl id 0 n w =>
            (rd id).bind fun blk =>
              if w = ie.size ∧ blk.elem = e ∧ n * w ≤ blk.cells.length ∧ n + r.2.1 ≤ small then
                some (.val (.c (.sl nx 0 (n + r.2.1) w)) [(nx, some { elem := e, cells := blk.cells.take (n * w) ++ r.1 }), (id, none)] (nx + 1))
              else none
          | _ => none
        else none

/-- append of so many zero elements to nothing. -/
def appZ (cx : Cx) (nx : Nat) (e : TypeId) (n : Nat) : Option Out :=
  (cx.ty e).bind fun ie =>
    if 0 < n ∧ n ≤ small then some (.val (.c (.sl nx 0 n ie.size)) [(nx, some { elem := e, cells := (List.replicate n ie.zero).flatten })] (nx + 1)) else none

def sliceOf (cx : Cx) (t : TypeId) : Option TypeId := (cx.ty t).bind fun i => match i.desc with | .slice e => some e | _ => none

def lenC (d : TD) : C → Option IE
  | .s (.lit l) => match d with | .string => some (.lit l.length) | _ => none
  | .nilS => match d with | .slice _ => some (.lit 0) | _ => none
  | .sl _ _ n _ => match d with | .slice _ => some (.lit n) | _ => none
  | _ => none

def bltV (cx : Cx) (rd : Rd) (nx : Nat) (b : Builtin) (args : List V) (ts : List TypeId) : Option Out :=
  match b, args, ts with
  | .len, [.c x], [t] => (cx.ty t).bind fun i => (lenC i.desc x).map fun e => .val (.c (.i .i64 e)) [] nx
  | .cap, [.c .nilS], [t] => (sliceOf cx t).map fun _ => .val (.c (.i .i64 (.lit 0))) [] nx
  | .append, [.c .nilS, .c (.i .i64 (.lit (.ofNat n)))], [t, t'] =>
    (sliceOf cx t).bind fun e => (cx.ty t').bind fun i => match i.desc with | .int _ => appZ cx nx e n | _ => none
  | .append, [.c a, .c b], [t, t'] => if t = t' then (sliceOf cx t).bind fun e => appV cx rd nx e a b else none
  | .min, [.c (.i k (.lit a)), .c (.i k' (.lit b))], _ => if k == k' then some (.val (.c (.i k (.lit (if b < a then b else a)))) [] nx) else none
  | _, _, _ => none

def callV (cx : Cx) (tm : List (Nat × V)) (rd : Rd) (nx : Nat) (c : Call) : Option Out :=
  let args := c.args.toList.map (opV tm)
  match c.callee with
  | .value f =>
    match opV tm f with
    | .c (.f f cs) => some (.call f (args ++ cs.map .c))
    | _ => none
  | .builtin b => bltV cx rd nx b args c.argTypes.toList
  | _ => none

def numOf (n : Nat) : V → Option Nat
  | .c (.i _ (.lit (.ofNat m))) => if m ≤ n then some m else none
  | _ => none

/-- An operation. -/
def evalOp (cx : Cx) (tm : List (Nat × V)) (rd : Rd) (nx : Nat) (o : Oper) : Option Out :=
  let ρ := opV tm
  match o.op with
  | .move x | .assign x => some (.val (ρ x) [] nx)
  | .pick c a b => match ρ c with | .c (.b true) => some (.val (ρ a) [] nx) | .c (.b false) => some (.val (ρ b) [] nx) | _ => none
  | .alloc t => (cx.ty t).map fun i => .val (.c (.p nx 0)) [(nx, some { elem := t, cells := i.zero })] (nx + 1)
  | .box t x => (cx.ty t).bind fun i => (cellsOf (ρ x)).bind fun l => if l.length = i.size then some (.val (.c (.p nx 0)) [(nx, some { elem := t, cells := l })] (nx + 1)) else none
  | .build t parts =>
    (cx.ty t).bind fun i =>
      match i.desc with
      | .struct fs =>
        (parts.toList.mapM fun (q : Nat × Operand) => (fs[q.1]?).bind fun fd => (cellsOf (ρ q.2)).bind fun l =>
          (cx.ty fd.2).bind fun ie => if l.length = ie.size ∧ fd.1 + l.length ≤ i.zero.length then some (fd.1, l) else none).map fun ps => .val (.agg (ps.foldl (fun cs p => over cs p.1 p.2) i.zero)) [] nx
      | _ => none
  | .buildSlice t len parts =>
    (cx.ty t).bind fun i =>
      match i.desc with
      | .slice e =>
        (cx.ty e).bind fun ie =>
          if parts.toList.map (·.1) = List.range len ∧ len ≤ small then
            (parts.toList.mapM fun (q : Nat × Operand) => (cellsOf (ρ q.2)).bind fun l => if l.length = ie.size then some l else none).map fun ls =>
              .val (.c (.sl nx 0 len ie.size)) [(nx, some { elem := e, cells := ls.flatten })] (nx + 1)
          else none
      | _ => none
  | .load t a =>
    (cx.ty t).bind fun i =>
      match ρ a with
      | .c (.p id off) => (rd id).bind fun b => (cut off i.size b.cells).bind fun l => (ofCells i.agg l).map fun v => .val v [] nx
      | _ => none
  | .store t a x =>
    (cx.ty t).bind fun i =>
      match ρ a with
      | .c (.p id off) => (rd id).bind fun b => (cellsOf (ρ x)).bind fun l =>
          if l.length = i.size ∧ off + l.length ≤ b.cells.length then some (.val .u [(id, some { b with cells := over b.cells off l })] nx) else none
      | _ => none
  | .nilCheck x => match ρ x with | .c (.p id off) => some (.val (.c (.p id off)) [] nx) | _ => none
  | .binOp op t x y _ =>
    match ρ x, ρ y with
    | .c a, .c b => (binC cx t op a b).map fun r => .val (.c r) [] nx
    | _, _ => none
  | .unOp .not _ x => match ρ x with | .c (.b b) => some (.val (.c (.b !b)) [] nx) | _ => none
  | .convert a b x =>
    match ρ x, cx.ty a, cx.ty b with
    | .c (.i _ (.lit n)), some ia, some ib => match ia.desc, ib.desc with | .int _, .int k => some (.val (.c (.i k (.lit (k.wrap n)))) [] nx) | _, _ => none
    | _, _, _ => none
  | .makeFunc (.func f) first caps =>
    if first.size = 0 then (caps.toList.mapM fun x => match ρ x with | .c c => some c | _ => none).map fun cs => .val (.c (.f f cs)) [] nx else none
  | .slice t x none (some hi) none =>
    (sliceOf cx t).bind fun e => (cx.ty e).bind fun _ =>
      match ρ x with
      | .c (.sl id off n w) => (numOf n (ρ hi)).map fun h => .val (.c (.sl id off h w)) [] nx
      | .c .nilS => (numOf 0 (ρ hi)).map fun _ => .val (.c .nilS) [] nx
      | _ => none
  | .fieldAddr t x fd =>
    (cx.ty t).bind fun i =>
      match i.desc, ρ x with
      | .struct fs, .c (.p id off) => (fs[fd]?).bind fun g => (cx.ty g.2).map fun _ => .val (.c (.p id (off + g.1))) [] nx
      | _, _ => none
  | .field t x fd =>
    (cx.ty t).bind fun i =>
      match i.desc, ρ x with
      | .struct fs, .agg l => (fs[fd]?).bind fun g => (cx.ty g.2).bind fun ie => (cut g.1 ie.size l).bind fun c => (ofCells ie.agg c).map fun v => .val v [] nx
      | _, _ => none
  | .indexAddr t x ix =>
    (sliceOf cx t).bind fun e => (cx.ty e).bind fun ie =>
      match ρ x, ρ ix with
      | .c (.sl id off n w), .c (.i _ (.lit (.ofNat j))) => if j < n ∧ w = ie.size then some (.val (.c (.p id (off + j * w))) [] nx) else none
      | _, _ => none
  | .index t x ix =>
    (cx.ty t).bind fun i =>
      match i.desc, ρ x, ρ ix with
      | .string, .c (.s (.lit l)), .c (.i _ (.lit (.ofNat j))) => if bytesOk l then (l[j]?).map fun b => .val (.c (.i .u8 (.lit (b : Nat)))) [] nx else none
      | _, _, _ => none
  | .extract x j => match ρ x with | .tup l => (l[j]?).map fun v => .val v [] nx | _ => none
  | .call c => callV cx tm rd nx c
  | .defer c =>
    match c.callee with
    | .value f => match ρ f with | .c (.f f cs) => some (.dfr f (c.args.toList.map ρ ++ cs.map .c)) | _ => none
    | _ => none
  | _ => none

def onlyVal : Option Out → Option Out
  | some (.val v u n) => some (.val v u n)
  | _ => none

/-- Calls come of calls alone, deferred ones of defers alone. -/
def evalO (cx : Cx) (tm : List (Nat × V)) (rd : Rd) (nx : Nat) (o : Oper) : Option Out :=
  match o.op with
  | .call c => match c.callee with | .value _ => evalOp cx tm rd nx o | _ => onlyVal (evalOp cx tm rd nx o)
  | .defer _ => evalOp cx tm rd nx o
  | _ => onlyVal (evalOp cx tm rd nx o)

/-! ### States -/
structure St where
  tm : List (Nat × V)
  hp : Hp
  nx : Nat
  df : List (Option (FuncId × List V))
  wr : List Nat
  deriving Inhabited

/-- What a call gives: the value, the heap behind it, the next free name, which old names were written. -/
structure Ans where
  v : V
  hp : Hp
  nx : Nat
  wr : List Nat
  deriving Inhabited

abbrev CallF := FuncId → List V → Hp → Nat → Option Ans

def putT (tm : List (Nat × V)) (d : Option Tmp) (v : V) : List (Nat × V) := match d with | some d => (d, v) :: tm | none => tm

/-- Names that are written: those below n0 are kept. -/
def logW (n0 : Nat) : List Nat → List Nat → List Nat
  | [], wr => wr
  | id :: r, wr => match Nat.ble n0 id with | true => logW n0 r wr | false => logW n0 r (if wr.contains id then wr else id :: wr)

def guardTmp (ops : Array Oper) (o : Oper) : Option (Option (Nat × Bool)) :=
  match o.guard with
  | none => some none
  | some (j, b) => ((ops[j]?).bind (·.dst)).map fun t => some (t, b)

/-- Is it run? What was skipped holds no truth. -/
def guardIs (ops : Array Oper) (tm : List (Nat × V)) (o : Oper) : Option Bool :=
  match guardTmp ops o with
  | none => none
  | some none => some true
  | some (some (t, b)) => match lkT tm t with | .c (.b c) => some (c == b) | .tup [] => some false | _ => none

/-! ### Regions in the program's order -/
def runOps (cx : Cx) (cf : CallF) (n0 : Nat) (ops : Array Oper) : List Oper → St → Option St
  | [], s => some s
  | o :: rest, s =>
    match guardIs ops s.tm o with
    | some false => runOps cx cf n0 ops rest { s with tm := putT s.tm o.dst (.tup []) }
    | some true =>
      match evalO cx s.tm s.hp.get s.nx o with
      | some (.val v [] nx) => runOps cx cf n0 ops rest { s with tm := putT s.tm o.dst v, nx }
      | some (.val v upd nx) => runOps cx cf n0 ops rest { s with tm := putT s.tm o.dst v, hp := apply s.hp upd, nx, wr := logW n0 (upd.map (·.1)) s.wr }
      | some (.call f args) =>
        match cf f args s.hp s.nx with
        | some a => runOps cx cf n0 ops rest { s with tm := putT s.tm o.dst a.v, hp := a.hp, nx := a.nx, wr := logW n0 a.wr s.wr }
        | none => none
      | some (.dfr f args) => runOps cx cf n0 ops rest { s with tm := putT s.tm o.dst (.tup []), df := some (f, args) :: s.df }
      | none => none
    | none => none

/-! ### Regions whose order is open -/
/-- What an operation looks at and what it writes. Names: of all below 'lo' but 'ids', or of 'ids' alone. -/
structure Fp where
  lt : List Nat
  wt : Option Nat
  all : Bool
  ids : List Nat
  w : List Nat
  lo : Nat
  hi : Nat
  deriving Inhabited

def Fp.look (f : Fp) (id : Nat) : Bool := match Nat.ble f.lo id with | true => false | false => if f.all then !f.ids.contains id else f.ids.contains id
def Fp.wrote (f : Fp) (id : Nat) : Bool := f.w.contains id || (Nat.ble f.lo id && !Nat.ble f.hi id)
def Fp.touch (f : Fp) (id : Nat) : Bool := f.look id || f.wrote id
def Fp.ws (f : Fp) : List Nat := f.w ++ List.range' f.lo (f.hi - f.lo)

def hasT (t : Option Nat) (l : List Nat) : Bool := match t with | some t => l.contains t | none => false

/-- Two operations, the first ahead in the program's order, of which one writes what the other looks at or writes. -/
def clash (a b : Fp) : Bool :=
  hasT a.wt b.lt || hasT b.wt a.lt || (match a.wt, b.wt with | some x, some y => Nat.beq x y | _, _ => false) || a.ws.any b.touch || b.w.any a.touch

def tmpsOf (o : Oper) : List Nat := o.op.operands.toList.filterMap fun | .tmp t => some t | _ => none

def guardTs (ops : Array Oper) (o : Oper) : List Nat := match guardTmp ops o with | some (some (t, _)) => [t] | _ => []

def idOf : V → List Nat
  | .c (.p id _) => [id]
  | .c (.sl id _ _ _) => [id]
  | _ => []

/-- The names that an operation of its own looks at. -/
def opIds (tm : List (Nat × V)) (o : Oper) : List Nat :=
  match o.op with
  | .load _ a => idOf (opV tm a)
  | .store _ a _ => idOf (opV tm a)
  | .call c => match c.callee with | .builtin _ => c.args.toList.flatMap fun x => idOf (opV tm x) | _ => []
  | _ => []

def rdOf (hp : Hp) (ids : List Nat) : Rd := fun id => if ids.contains id then hp.get id else none

def takeAway (hp : Hp) : List Nat → Hp
  | [] => hp
  | id :: r => (takeAway hp r).set id none
def putBack (old : Hp) (hp : Hp) : List Nat → Hp
  | [] => hp
  | id :: r => (putBack old hp r).set id (old.get id)

/-- Which must have run ahead of it. -/
def closure (acc : List Nat) (o : Oper) : Nat :=
  o.after.foldl (fun s e => if Region.binds .any e then s ||| 2 ^ e.on ||| (acc[e.on]?).getD 0 else s) 0

/-- The names that those wrote that need not have run ahead. -/
def loose (cl : Nat) : Nat → List Fp → List Nat
  | _, [] => []
  | i, f :: r => if cl.testBit i then loose cl (i + 1) r else f.ws ++ loose cl (i + 1) r

/-- A step: the value, the heap, the next free name, the footprint. -/
structure Sd where
  v : V
  hp : Hp
  nx : Nat
  fp : Fp
  deriving Inhabited

def stepD (cx : Cx) (cf : CallF) (ops : Array Oper) (lo : List Nat) (tm : List (Nat × V)) (hp : Hp) (nx : Nat) (o : Oper) : Option Sd :=
  let lt := guardTs ops o ++ tmpsOf o
  match guardIs ops tm o with
  | some false => some { v := .tup [], hp, nx, fp := { lt, wt := o.dst, all := false, ids := [], w := [], lo := nx, hi := nx } }
  | some true =>
    let ids := opIds tm o
    match evalO cx tm (rdOf hp ids) nx o with
    | some (.val v upd nx') => some { v, hp := apply hp upd, nx := nx', fp := { lt, wt := o.dst, all := false, ids, w := (upd.map (·.1)).filter fun id => !Nat.ble nx id, lo := nx, hi := nx' } }
    | some (.call f args) =>
      match cf f args (takeAway hp lo) nx with
      | some a => if a.wr.any (fun id => lo.contains id) then none else
        some { v := a.v, hp := putBack hp a.hp lo, nx := a.nx, fp := { lt, wt := o.dst, all := true, ids := lo, w := a.wr.filter (fun id => !Nat.ble nx id), lo := nx, hi := a.nx } }
      | none => none
    | _ => none
  | none => none

def orderChk (cl : Nat) (b : Fp) : Nat → List Fp → Bool
  | _, [] => true
  | i, a :: r => (cl.testBit i || !clash a b) && orderChk cl b (i + 1) r

/-- The state along the program's order. -/
structure Nf where
  tm : List (Nat × V)
  hp : Hp
  nx : Nat
  cl : List Nat
  fps : List Fp
  deriving Inhabited

def runD (cx : Cx) (cf : CallF) (ops : Array Oper) : List Oper → Nat → Nf → Option Nf
  | [], _, n => some n
  | o :: rest, j, n =>
    let c := closure n.cl o
    match stepD cx cf ops (loose c 0 n.fps) n.tm n.hp n.nx o with
    | some d =>
      if orderChk c d.fp 0 n.fps && (o.after.all fun x => !Region.binds .any x || decide (x.on < j)) then
        runD cx cf ops rest (j + 1) { tm := putT n.tm o.dst d.v, hp := d.hp, nx := d.nx, cl := n.cl ++ [c], fps := n.fps ++ [d.fp] }
      else none
    | none => none

def nodup : List Nat → Bool
  | [] => true
  | a :: l => !l.contains a && nodup l

def regionD (cx : Cx) (cf : CallF) (n0 : Nat) (ops : Array Oper) (s : St) : Option St :=
  if nodup (ops.toList.filterMap (·.dst)) then
    (runD cx cf ops ops.toList 0 { tm := s.tm, hp := s.hp, nx := s.nx, cl := [], fps := [] }).map fun n =>
      { s with tm := n.tm, hp := n.hp, nx := n.nx, wr := logW n0 (n.fps.flatMap (·.w)) s.wr }
  else none

/-! ### Code -/
inductive Ex where
  | normal
  | exit (id : Nat)
  | ret
  deriving Inhabited

def iter (f : St → Option (Ex × St)) : Nat → St → Option (Ex × St)
  | 0, _ => none
  | n + 1, s => match f s with | some (.normal, s) => iter f n s | r => r

def exec (cx : Cx) (cf : CallF) (n0 : Nat) : Code → St → Option (Ex × St)
  | .skip, s => some (.normal, s)
  | .region _ ops false, s => (runOps cx cf n0 ops ops.toList s).map fun s => (.normal, s)
  | .region _ ops true, s => (regionD cx cf n0 ops s).map fun s => (.normal, s)
  | .seq a b, s => match exec cx cf n0 a s with | some (.normal, s) => exec cx cf n0 b s | r => r
  | .cond c a b, s => match opV s.tm c with | .c (.b true) => exec cx cf n0 a s | .c (.b false) => exec cx cf n0 b s | _ => none
  | .block id c, s => match exec cx cf n0 c s with | some (.exit i, s) => if i = id then some (.normal, s) else some (.exit i, s) | r => r
  | .loop c, s => iter (exec cx cf n0 c) 400 s
  | .rangeFunc g _ _ _, s =>
    match opV s.tm g with
    | .c (.f f cs) =>
      match cf f (.u :: cs.map .c) s.hp s.nx with
      | some a => some (.normal, { s with hp := a.hp, nx := a.nx, df := none :: s.df, wr := logW n0 a.wr s.wr })
      | none => none
    | _ => none
  | .exit id, s => some (.exit id, s)
  | .ret, s => some (.ret, s)
  | _, _ => none

def resV (cx : Cx) (tm : List (Nat × V)) (hp : Hp) : ResultVar → Option V
  | .tmp t => some (lkT tm t)
  | .cell a t => (cx.ty t).bind fun i => match lkT tm a with | .c (.p id off) => (hp.get id).bind fun b => (cut off i.size b.cells).bind (ofCells i.agg) | _ => none

def start (args : List V) : Nat → List (Nat × V)
  | i => match args with | [] => [] | v :: r => (i, v) :: start r (i + 1)

/-- A function's body: where it comes to its end. -/
def run1 (cx : Cx) (cf : CallF) (fn : Func) (args : List V) (hp : Hp) (nx : Nat) : Option St :=
  match fn.body with
  | some c =>
    if args.length = fn.params.size + fn.nfree then
      match exec cx cf nx c { tm := start args 0, hp, nx, df := [], wr := [] } with
      | some (.normal, s) => some s
      | some (.ret, s) => some s
      | _ => none
    else none
  | none => none

/-- The deferred ones, the last first; they defer none of their own. -/
def runDf (P : Program) (cx : Cx) (cf : CallF) (n0 : Nat) : List (Option (FuncId × List V)) → Hp → Nat → List Nat → Option (Hp × Nat × List Nat)
  | [], hp, nx, wr => some (hp, nx, wr)
  | none :: r, hp, nx, wr => runDf P cx cf n0 r hp nx wr
  | some (f, args) :: r, hp, nx, wr =>
    match P.funcs[f]? with
    | some fn =>
      match run1 cx cf fn args hp nx with
      | some s => match s.df, fn.results.toList.mapM (resV cx s.tm s.hp) with | [], some _ => runDf P cx cf n0 r s.hp s.nx (logW n0 s.wr wr) | _, _ => none
      | none => none
    | none => none

def one : List V → V
  | [v] => v
  | vs => .tup vs

def body (P : Program) (cx : Cx) (cf : CallF) (fn : Func) (args : List V) (hp : Hp) (nx : Nat) : Option Ans :=
  match run1 cx cf fn args hp nx with
  | some s =>
    match runDf P cx cf nx s.df s.hp s.nx s.wr with
    | some (hp, nx, wr) => (fn.results.toList.mapM (resV cx s.tm hp)).map fun vs => { v := one vs, hp, nx, wr }
    | none => none
  | none => none

/-- A function that is told ahead: its value, what it makes. -/
abbrev Base := FuncId → List V → Nat → Option (V × List Blk)

def made (nx : Nat) (hp : Hp) : List Blk → Hp × Nat
  | [] => (hp, nx)
  | b :: r => made (nx + 1) (hp.set nx (some b)) r

def callF (P : Program) (cx : Cx) (bs : Base) : Nat → CallF
  | 0, _, _, _, _ => none
  | n + 1, f, args, hp, nx =>
    match bs f args nx with
    | some (v, l) => let r := made nx hp l; some { v, hp := r.1, nx := r.2, wr := [] }
    | none =>
      match P.funcs[f]? with
      | some fn => body P cx (callF P cx bs n) fn args hp nx
      | none => none

end Go.Proofs.YtdbbchgbgdbhbaaGreatDoor.Xe
