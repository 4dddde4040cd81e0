/- A small checker of functions of the program: with which kinds of values it is called, what it gives; nothing falls. The definitions alone. No condition. -/
import Derived.Test.YtlbcaadflcjpeaaGreatDoorProg
set_option linter.unusedVariables false
namespace Go.Proofs.YtlbcaadflcjpeaaGreatDoor.Va
open Go

/-- What a cell may hold. -/
inductive CT where
  | int (k : IntKind) (lo hi : Int)
  | bl
  | bc (b : Bool)
  | str (lo hi : Nat)
  | nil0
  | sl (nm lo hi : Nat) (own : Bool)
  | cur
  deriving DecidableEq, Inhabited

/-- What a value may be. -/
inductive AV where
  | one (cs : List CT)
  | agg (vs : List (List CT))
  | bp (t off : Nat)
  | ep (nm i off : Nat)
  | tup (l : List (List CT))
  | gd (t : Nat) (b : Bool) (a : AV)
  | any
  deriving DecidableEq, Inhabited

/-- A row of elements: of which type, how many cells each, what the elements may be: the first ones each by its place, then all others. -/
structure Row where
  elem : TypeId
  width : Nat
  exc : List (List (List CT)) := []
  els : List (List CT)
  deriving Inhabited

def Row.at (r : Row) (i : Nat) : List (List CT) := (r.exc[i]?).getD r.els

/-- What a type is. -/
inductive TD where
  | int (k : IntKind)
  | bool
  | string
  | slice (e : TypeId)
  | struct (fs : List (Nat × TypeId))
  deriving DecidableEq, Inhabited

/-- What is to be known of a type. -/
structure TI where
  id : TypeId
  size : Nat
  bytes : Nat
  desc : TD
  zero : List CT
  deriving Inhabited

def TI.agg (i : TI) : Bool := match i.desc with | .struct _ => true | _ => false

structure Inst where
  fn : FuncId
  args : List AV
  res : AV
  split : List Nat := []
  deriving Inhabited

structure Cx where
  rows : List Row
  sub : List (Nat × Nat)
  tys : List TI
  cands : List (TypeId × List Nat)
  hints : List (FuncId × Tmp × Nat)
  splits : List (FuncId × Tmp)
  insts : List Inst
  fn : FuncId
  ntmps : Nat
  live : List Tmp
  deriving Inhabited

def Cx.ty (cx : Cx) (t : TypeId) : Option TI := cx.tys.find? (·.id == t)
def Cx.row (cx : Cx) (nm : Nat) : Option Row := cx.rows[nm]?
def Cx.subB (cx : Cx) (a b : Nat) : Bool := a == b || cx.sub.contains (a, b)

structure St where
  tm : List (Nat × AV)
  bx : List (Nat × List (List CT))
  deriving DecidableEq, Inhabited

def St.get (s : St) (t : Nat) : AV := ((s.tm.find? (·.1 == t)).map (·.2)).getD .any
def St.box (s : St) (t : Nat) : Option (List (List CT)) := (s.bx.find? (·.1 == t)).map (·.2)

def CT.isB : CT → Bool
  | .bl | .bc _ => true
  | _ => false

/-! ### One is part of the other -/
def CT.le (cx : Cx) : CT → CT → Bool
  | .int k a b, .int k' c d => k == k' && c ≤ a && b ≤ d
  | .bl, .bl => true
  | .bc _, .bl => true
  | .bc a, .bc b => a == b
  | .str a b, .str c d => c ≤ a && b ≤ d
  | .nil0, .nil0 => true
  | .nil0, .sl _ c _ _ => c == 0
  | .sl nm a b o, .sl nm' c d o' => (if o' then o && nm == nm' else cx.subB nm nm') && c ≤ a && b ≤ d
  | .cur, .cur => true
  | _, _ => false

def leL (cx : Cx) : List CT → List CT → Bool
  | [], [] => true
  | a :: x, b :: y => a.le cx b && leL cx x y
  | _, _ => false

def leV (cx : Cx) (a b : List (List CT)) : Bool := a.all fun x => b.any fun y => leL cx x y
def leC (cx : Cx) (a b : List CT) : Bool := a.all fun x => b.any fun y => x.le cx y

def AV.le (cx : Cx) : AV → AV → Bool
  | _, .any => true
  | .one a, .one b => leC cx a b
  | .agg a, .agg b => leV cx a b
  | .tup a, .tup b => a.length == b.length && (a.zip b).all fun (x, y) => leC cx x y
  | _, _ => false

/-! ### Numbers -/
def big : Nat := 2 ^ 40
def full (k : IntKind) : CT := .int k k.min k.max
def iv (k : IntKind) (lo hi : Int) : CT := if k.min ≤ lo ∧ hi ≤ k.max then .int k lo hi else full k

def cmpB (op : BinOp) (a b c d : Int) : Option CT :=
  match op with
  | .lss => some (if b < c then .bc true else if d ≤ a then .bc false else .bl)
  | .leq => some (if b ≤ c then .bc true else if d < a then .bc false else .bl)
  | .gtr => some (if d < a then .bc true else if b ≤ c then .bc false else .bl)
  | .geq => some (if d ≤ a then .bc true else if b < c then .bc false else .bl)
  | .eql => some (if b < c ∨ d < a then .bc false else if a = b ∧ c = d ∧ a = c then .bc true else .bl)
  | .neq => some (if b < c ∨ d < a then .bc true else if a = b ∧ c = d ∧ a = c then .bc false else .bl)
  | _ => none

def intB (op : BinOp) (k : IntKind) (a b c d : Int) : Option CT :=
  match op with
  | .add => some (iv k (a + c) (b + d))
  | .sub => some (iv k (a - d) (b - c))
  | .rem => if 0 ≤ a ∧ 0 < c then some (.int k 0 (d - 1)) else none
  | op => cmpB op a b c d

def binC (op : BinOp) : CT → CT → Option CT
  | .int k a b, .int k' c d => if k = k' then intB op k a b c d else none
  | .str a b, .str c d =>
    match op with
    | .add => if b + d ≤ big then some (.str (a + c) (b + d)) else none
    | .eql => some (if b < c ∨ d < a then .bc false else if b = 0 ∧ d = 0 then .bc true else .bl)
    | .neq => some (if b < c ∨ d < a then .bc true else if b = 0 ∧ d = 0 then .bc false else .bl)
    | _ => none
  | _, _ => none

/-- All pairs. -/
def pairs (f : CT → CT → Option CT) (x y : List CT) : Option (List CT) :=
  (x.mapM fun a => y.mapM fun b => f a b).map fun l => l.flatten.eraseDups

/-! ### Operands -/
def constAV : Value → AV
  | .bool b => .one [.bc b]
  | .int k n => .one [.int k n n]
  | .string s => .one [.str s.size s.size]
  | .slice none 0 0 => .one [.nil0]
  | _ => .any

def opAV (s : St) : Operand → AV
  | .tmp t => s.get t
  | .const v => constAV v
  | _ => .any

/-- No guard in it. -/
def flat : AV → AV
  | .gd .. => .any
  | a => a

/-- Under a guard: what is known where the guard holds. -/
def unG (g : Option (Nat × Bool)) : AV → AV
  | .gd t b a => if g = some (t, b) then flat a else .any
  | a => a

/-- What is picked: known under the own guard, or under the choice's. -/
def unP (g : Option (Nat × Bool)) (p : Nat × Bool) : AV → AV
  | .gd t b a => if g = some (t, b) ∨ p = (t, b) then flat a else .any
  | a => a

/-! ### What an operation gives -/
inductive Eff where
  | no
  | new (vs : List (List CT))
  | put (t : Nat) (vs : List (List CT))
  deriving DecidableEq, Inhabited

def asV : AV → Option (List (List CT))
  | .one cs => some (cs.map fun c => [c])
  | .agg vs => some vs
  | _ => none

/-- The cells from 'off' on, 'n' of them. -/
def cut (off n : Nat) (vs : List (List CT)) : Option (List (List CT)) :=
  if vs.all fun v => off + n ≤ v.length then some ((vs.map fun v => (v.drop off).take n).eraseDups) else none

def ofCells (agg : Bool) (vs : List (List CT)) : Option AV :=
  if agg then some (.agg vs) else (vs.mapM (fun (v : List CT) => match v with | [c] => some c | _ => none)).map .one

def over (v : List CT) (off : Nat) (x : List CT) : List CT := v.take off ++ x ++ v.drop (off + x.length)

/-- Parts laid over cells, each way. -/
def layAll (base : List (List CT)) : List (Nat × List (List CT)) → List (List CT)
  | [] => base
  | (off, vs) :: rest => layAll (base.flatMap fun b => vs.map fun x => over b off x) rest

def fitRow (cx : Cx) (elem : TypeId) (es : List (List (List CT))) (nm : Nat) : Bool :=
  match cx.row nm with
  | some r => r.elem == elem && es.zipIdx.all fun (vs, i) => leV cx vs (r.at i)
  | none => false

def pickRow (cx : Cx) (t elem : TypeId) (dst : Tmp) (es : List (List (List CT))) : Option Nat :=
  match cx.hints.find? fun (f, d, _) => f == cx.fn && d == dst with
  | some (_, _, nm) => if fitRow cx elem es nm then some nm else none
  | none => (((cx.cands.find? (·.1 == t)).map (·.2)).getD []).find? (fitRow cx elem es)

def lenC (d : TD) : CT → Option CT
  | .str a b => if d = .string then some (.int .i64 a b) else none
  | .nil0 => match d with | .slice _ => some (.int .i64 0 0) | _ => none
  | .sl _ a b _ => match d with | .slice _ => some (.int .i64 a b) | _ => none
  | _ => none

def small : Nat := 1000

/-- append: the row that comes of it. -/
def appC (cx : Cx) (t e : TypeId) (dst : Tmp) : CT → CT → Option CT
  | .nil0, .nil0 => some .nil0
  | .nil0, .sl nm a b _ =>
    match cx.row nm with
    | some r => if b ≤ small ∧ r.exc = [] ∧ r.elem = e then (pickRow cx t e dst [r.els]).bind fun nm' => match cx.row nm' with | some r' => if r'.exc = [] ∧ r'.elem = e ∧ leV cx r.els r'.els then some (.sl nm' a b true) else none | none => none else none
    | none => none
  | .sl nm a b true, .nil0 => some (.sl nm a b true)
  | .sl nm a b true, .sl nm' c d _ =>
    match cx.row nm, cx.row nm' with
    | some r, some r' => if b + d ≤ small ∧ r.exc = [] ∧ r'.exc = [] ∧ r.elem = e ∧ r'.elem = e ∧ leV cx r'.els r.els then some (.sl nm (a + c) (b + d) true) else none
    | _, _ => none
  | _, _ => none

def convC (cx : Cx) (src dst : TD) : CT → Option CT
  | .int _ a b => match dst with | .int k => some (iv k a b) | _ => none
  | .sl nm a b _ =>
    match src with
    | .slice e =>
      match cx.row nm, cx.ty e with
      | some r, some ie => if dst = .string ∧ ie.desc = .int .u8 ∧ r.exc = [] ∧ r.els = [[full .u8]] ∧ b ≤ small then some (.str a b) else none
      | _, _ => none
    | _ => none
  | _ => none

def find (cx : Cx) (f : FuncId) (args : List AV) : Option Inst :=
  cx.insts.find? fun i => i.fn == f && i.args.length == args.length && (args.zip i.args).all fun (a, b) => a.le cx b

def oneOf : AV → Option (List CT)
  | .one cs => some cs
  | _ => none

def lenOp (cx : Cx) (c : Call) (args : List AV) : Option (AV × Eff) :=
  match args, c.argTypes.toList with
  | [.one cs], [t] => (cx.ty t).bind fun i => (cs.mapM (lenC i.desc)).map fun l => (.one l, .no)
  | _, _ => none

def appOp (cx : Cx) (dst : Option Tmp) (c : Call) (args : List AV) : Option (AV × Eff) :=
  match dst, args, c.argTypes.toList with
  | some d, [.one a, .one b], [t, t'] =>
    (cx.ty t).bind fun i =>
      match i.desc with
      | .slice e => if t = t' then (cx.ty e).bind fun _ => (pairs (appC cx t e d) a b).map fun l => (.one l, .no) else none
      | _ => none
  | _, _, _ => none

def callOp (cx : Cx) (dst : Option Tmp) (c : Call) (args : List AV) : Option (AV × Eff) :=
  match c.callee with
  | .value (.func f) => (find cx f args).map fun i => (i.res, .no)
  | .builtin .len => lenOp cx c args
  | .builtin .append => appOp cx dst c args
  | _ => none

/-- An operation, with what its operands may be. -/
def evalOp (cx : Cx) (s : St) (o : Oper) (g : Option (Nat × Bool)) : Option (AV × Eff) :=
  let ρ := fun x => unG g (opAV s x)
  match o.op with
  | .move x | .assign x => some (ρ x, .no)
  | .pick (.tmp t) a b =>
    match ρ (.tmp t) with
    | .one [.bc true] => some (unP g (t, true) (opAV s a), .no)
    | .one [.bc false] => some (unP g (t, false) (opAV s b), .no)
    | .one cs =>
      match oneOf (unP g (t, true) (opAV s a)), oneOf (unP g (t, false) (opAV s b)) with
      | some x, some y => if cs.all CT.isB then some (.one (x ++ y).eraseDups, .no) else none
      | _, _ => none
    | _ => none
  | .alloc t => (cx.ty t).map fun i => (.bp (o.dst.getD 0) 0, .new [i.zero])
  | .box t x => (cx.ty t).bind fun i => (asV (ρ x)).bind fun vs => if vs.all (·.length == i.size) then some (.bp (o.dst.getD 0) 0, .new vs) else none
  | .build t parts =>
    (cx.ty t).bind fun i =>
      match i.desc with
      | .struct fs =>
        if !(fs.all fun f => (cx.ty f.2).isSome) then none else
        (parts.toList.mapM (fun (p : Nat × Operand) => (fs[p.1]?).bind fun (f : Nat × TypeId) => (cx.ty f.2).bind fun ie => (asV (ρ p.2)).bind fun (vs : List (List CT)) =>
          if vs.all (·.length == ie.size) && decide (f.1 + ie.size ≤ i.zero.length) then some (f.1, vs) else none)).map fun ps => (.agg (layAll [i.zero] ps).eraseDups, .no)
      | _ => none
  | .buildSlice t len parts =>
    (cx.ty t).bind fun i =>
      match i.desc with
      | .slice e =>
        (cx.ty e).bind fun ie =>
          if len = 0 ∧ parts.size = 0 then some (.one [.nil0], .no)
          else if parts.toList.map (·.1) = List.range len ∧ 0 < len ∧ len ≤ small ∧ ie.size ≤ small then
            (parts.toList.mapM (fun (p : Nat × Operand) => (asV (ρ p.2)).bind fun (vs : List (List CT)) => if vs.all (·.length == ie.size) then some vs else none)).bind fun es =>
              (pickRow cx t e (o.dst.getD 0) es).bind fun nm => match cx.row nm with | some r => if fitRow cx e es nm ∧ r.width = ie.size then some (.one [.sl nm len len true], .no) else none | none => none
          else none
      | _ => none
  | .load t a =>
    (cx.ty t).bind fun i =>
      match ρ a with
      | .bp b off => (s.box b).bind fun vs => (cut off i.size vs).bind fun vs => (ofCells i.agg vs).map fun r => (r, .no)
      | .ep nm j off => (cx.row nm).bind fun r => (cut off i.size (r.at j)).bind fun vs => (ofCells i.agg vs).map fun r => (r, .no)
      | _ => none
  | .store t a x =>
    (cx.ty t).bind fun i =>
      match ρ a with
      | .bp b off => (s.box b).bind fun vs => (asV (ρ x)).bind fun xs =>
          if xs.all (·.length == i.size) && vs.all (fun v => off + i.size ≤ v.length) then some (.any, .put b (layAll vs [(off, xs)]).eraseDups) else none
      | _ => none
  | .nilCheck x =>
    match ρ x with
    | .bp t off => some (.bp t off, .no)
    | .ep nm i off => some (.ep nm i off, .no)
    | _ => none
  | .binOp op t x y _ =>
    match ρ x, ρ y with
    | .one a, .one b => (pairs (binC op) a b).map fun l => (.one l, .no)
    | _, _ => none
  | .unOp .not _ x =>
    match ρ x with
    | .one cs => (cs.mapM (fun (c : CT) => match c with | .bl => some CT.bl | .bc b => some (CT.bc !b) | _ => none)).map fun l => (.one l, .no)
    | _ => none
  | .convert a b x =>
    match ρ x, cx.ty a, cx.ty b with
    | .one cs, some ia, some ib => (cs.mapM (convC cx ia.desc ib.desc)).map fun l => (.one l, .no)
    | _, _, _ => none
  | .slice t x none (some hi) none =>
    (cx.ty t).bind fun i =>
      match i.desc, ρ x, ρ hi with
      | .slice e, .one [.sl nm a b _], .one [.int .i64 c d] => (cx.ty e).bind fun _ => if c = d ∧ 0 ≤ c ∧ c ≤ a then some (.one [.sl nm c.toNat c.toNat false], .no) else none
      | _, _, _ => none
  | .fieldAddr t x f =>
    (cx.ty t).bind fun i =>
      match i.desc with
      | .struct fs =>
        (fs[f]?).bind fun g => (cx.ty g.2).bind fun _ =>
          match ρ x with
          | .bp b off => some (.bp b (off + g.1), .no)
          | .ep nm j off => some (.ep nm j (off + g.1), .no)
          | _ => none
      | _ => none
  | .indexAddr t x ix =>
    (cx.ty t).bind fun i =>
      match i.desc, ρ x, ρ ix with
      | .slice e, .one [.sl nm a _ _], .one [.int _ c d] =>
        (cx.ty e).bind fun ie => (cx.row nm).bind fun r =>
          if 0 ≤ c ∧ d < a ∧ r.width = ie.size then (if c = d then some (.ep nm c.toNat 0, .no) else if r.exc = [] then some (.ep nm 0 0, .no) else none) else none
      | _, _, _ => none
  | .index t x ix =>
    (cx.ty t).bind fun i =>
      match i.desc, ρ x, ρ ix with
      | .string, .one [.str a _], .one [.int _ c d] => if 0 ≤ c ∧ d < a then some (.one [full .u8], .no) else none
      | _, _, _ => none
  | .extract x i =>
    match ρ x with
    | .tup l => (l[i]?).map fun cs => (.one cs, .no)
    | _ => none
  | .call c => callOp cx o.dst c (c.args.toList.map ρ)
  | _ => none

/-! ### A region -/
def guardTmp (ops : Array Oper) (o : Oper) : Option (Option (Nat × Bool)) :=
  match o.guard with
  | none => some none
  | some (j, b) => ((ops[j]?).bind (·.dst)).map fun t => some (t, b)

def putSt (s : St) (dst : Option Tmp) (a : AV) (e : Eff) : St :=
  let tm := match dst with | some d => (d, a) :: s.tm.filter (·.1 != d) | none => s.tm
  match e with
  | .no => { s with tm }
  | .new vs => { tm, bx := (dst.getD 0, vs) :: s.bx }
  | .put t vs => { tm, bx := (t, vs) :: s.bx.filter (·.1 != t) }

/-- An operation in its region: under its guard. -/
def stepOp (cx : Cx) (ops : Array Oper) (s : St) (o : Oper) : Option (AV × Eff) :=
  match guardTmp ops o with
  | none => none
  | some none => evalOp cx s o none
  | some (some (t, b)) =>
    match s.get t with
    | .one [.bc c] => if c = b then evalOp cx s o none else some (.any, .no)
    | _ =>
      match evalOp cx s o (some (t, b)) with
      | some (a, .no) => some (.gd t b a, .no)
      | _ => none

def depOf : AV → List Nat
  | .bp t _ => [t]
  | .gd t _ a => t :: depOf a
  | _ => []

def tmpsOf (o : Oper) : List Nat := o.op.operands.toList.filterMap fun | .tmp t => some t | _ => none

def isMem : Op → Bool
  | .load _ _ | .store _ _ _ => true
  | _ => false

/-- What an operation looks at and what it writes: a temporary t is 2t, a box 2t+1. -/
def looks (ops : Array Oper) (s : St) (o : Oper) (a : AV) : List Nat :=
  let ts := tmpsOf o ++ (match guardTmp ops o with | some (some (t, _)) => [t] | _ => [])
  let ds := ts.flatMap (fun t => depOf (s.get t)) ++ depOf a
  (ts ++ ds).map (2 * ·) ++ (if isMem o.op then ds.map (2 * · + 1) else [])

def writes (o : Oper) (e : Eff) : List Nat :=
  (match o.dst with | some d => [2 * d] | none => []) ++ (match e with | .no => [] | .new _ => [2 * o.dst.getD 0 + 1] | .put t _ => [2 * t + 1])

structure Fp where
  looks : List Nat
  writes : List Nat

/-- All that must come before: a number's bits. -/
def closure (acc : List Nat) (o : Oper) : Nat :=
  o.after.toList.foldl (fun s e => if Region.binds .any e then s ||| 2 ^ e.on ||| (acc[e.on]?).getD 0 else s) 0

def meets (x y : List Nat) : Bool := x.any fun a => y.contains a

def clash (a b : Fp) : Bool := meets a.writes b.writes || meets a.writes b.looks || meets a.looks b.writes

/-- The edges lead back; whatever clashes with one ahead is kept behind it by the edges. -/
def stepChk (ntmps : Nat) (o : Oper) (j : Nat) (fps : List Fp) (fp : Fp) (c : Nat) : Bool :=
  o.after.toList.all (fun e => !Region.binds .any e || decide (e.on < j)) && (fps.zipIdx.all fun x => !clash x.1 fp || c.testBit x.2) && o.dst.toList.all fun d => decide (d < ntmps)

/-- A box that is written is there. -/
def putChk (s : St) : Eff → Bool
  | .put b _ => (s.box b).isSome
  | _ => true

/-- No later operation writes what a kind is said of; a new box has a name. -/
def lateChk (rest : List Oper) (o : Oper) (a : AV) (e : Eff) : Bool :=
  (depOf a).all (fun d => rest.all fun o' => o'.dst != some d) && (match e with | .new _ => o.dst.isSome | _ => true)

/-- Op after op, in the program's order. -/
def runOps (cx : Cx) (ops : Array Oper) : List Oper → Nat → List Nat → List Fp → St → Option St
  | [], _, _, _, s => some s
  | o :: rest, j, cl, fps, s =>
    match stepOp cx ops s o with
    | none => none
    | some (a, e) =>
      if stepChk cx.ntmps o j fps { looks := looks ops s o a, writes := writes o e } (closure cl o) && putChk s e && lateChk rest o a e then
        runOps cx ops rest (j + 1) (cl ++ [closure cl o]) (fps ++ [{ looks := looks ops s o a, writes := writes o e }]) (putSt s o.dst a e)
      else none

/-- What is stale ahead of a region: pointers to boxes that are made anew, what was known under a guard. -/
def fresh (ds : List Nat) : AV → AV
  | .gd .. => .any
  | .bp t off => if ds.contains t then .any else .bp t off
  | a => a

def prep (ops : Array Oper) (s : St) : St :=
  let ds := ops.toList.filterMap (·.dst)
  { tm := s.tm.map fun x => (x.1, fresh ds x.2), bx := s.bx.filter fun x => !ds.contains x.1 }

/-- What nobody asks for behind the region is left out. -/
def trim (live : List Tmp) (s : St) : St := { s with tm := s.tm.filter fun x => live.contains x.1 }

def nodup : List Nat → Bool
  | [] => true
  | a :: l => !l.contains a && nodup l

def runRegion (cx : Cx) (ops : Array Oper) (s : St) : Option St :=
  if nodup (ops.toList.filterMap (·.dst)) then (runOps cx ops ops.toList 0 [] [] (prep ops s)).map (trim cx.live) else none

/-! ### Code -/
inductive Ex where
  | normal
  | exit (id : Nat)
  | ret
  deriving DecidableEq, Inhabited

def thenAll (f : St → Option (List (Ex × St))) : List (Ex × St) → Option (List (Ex × St))
  | [] => some []
  | (.normal, s) :: r => (f s).bind fun a => (thenAll f r).map fun b => a ++ b
  | x :: r => (thenAll f r).map fun b => x :: b

def normals (l : List (Ex × St)) : List St := l.filterMap fun | (.normal, s) => some s | _ => none
def others (l : List (Ex × St)) : List (Ex × St) := l.filter fun | (.normal, _) => false | _ => true

def iter (f : St → Option (List (Ex × St))) : Nat → List St → Option (List (Ex × St))
  | _, [] => some []
  | 0, _ => none
  | n + 1, ss => (ss.mapM f).bind fun l => let l := l.flatten; (iter f n (normals l).eraseDups).map fun r => others l ++ r

/-- A number between two is one of them: a state for each. -/
def numbers : AV → List AV
  | .one [.int k a b] => if b - a ≤ 12 then (List.range (b - a + 1).toNat).map fun (i : Nat) => .one [.int k (a + (i : Int)) (a + (i : Int))] else [.one [.int k a b]]
  | a => [a]

def values : List Tmp → St → List St
  | [], s => [s]
  | t :: r, s => (numbers (s.get t)).flatMap fun a => values r { s with tm := (t, a) :: s.tm.filter (·.1 != t) }

def reBlock (id : Nat) : Ex × St → Ex × St
  | (.exit i, s) => if i = id then (.normal, s) else (.exit i, s)
  | x => x

def exec (cx : Cx) : Code → St → Option (List (Ex × St))
  | .skip, s => some [(.normal, s)]
  | .region _ ops _, s => (runRegion cx ops s).map fun s => (values (cx.splits.filterMap fun x => if x.1 = cx.fn then some x.2 else none) s).map fun s => (.normal, s)
  | .seq a b, s => (exec cx a s).bind fun l => (thenAll (exec cx b) l).map List.eraseDups
  | .cond c a b, s =>
    match opAV s c with
    | .one [.bc true] => exec cx a s
    | .one [.bc false] => exec cx b s
    | .one cs =>
      if cs.all CT.isB then
        (exec cx a s).bind fun x => (exec cx b s).map fun y => x ++ y
      else none
    | _ => none
  | .block id c, s => (exec cx c s).map fun l => (l.map (reBlock id)).eraseDups
  | .loop c, s => iter (exec cx c) 80 [s]
  | .exit id, s => some [(.exit id, s)]
  | .ret, s => some [(.ret, s)]
  | _, _ => none

/-! ### A function with kinds of values -/
def exact : CT → List CT
  | .sl nm a b o => if b ≤ 40 then (List.range (b - a + 1)).map fun i => .sl nm (a + i) (a + i) o else [.sl nm a b o]
  | .str a b => if b ≤ 12 then (List.range (b - a + 1)).map fun i => .str (a + i) (a + i) else [.str a b]
  | c => [c]

/-- A parameter's kinds, one by one. -/
def splitAV : AV → List AV
  | .one cs => (cs.flatMap exact).map fun c => .one [c]
  | .agg vs => vs.map fun v => .agg [v]
  | a => [a]

/-- A row with nothing, or with something. -/
def halves : CT → List CT
  | .sl nm a b o => if a = 0 then [.sl nm 0 0 o, .sl nm 1 b o] else [.sl nm a b o]
  | c => [c]

def halfAV : AV → List AV
  | .one cs => (cs.flatMap halves).map fun c => .one [c]
  | a => [a]

def combos (sp : List Nat) : Nat → List AV → List (List AV)
  | _, [] => [[]]
  | i, a :: r => (if sp.contains i then splitAV a else if sp.contains (i + 100) then halfAV a else [a]).flatMap fun x => (combos sp (i + 1) r).map fun y => x :: y

def resAV (cx : Cx) (s : St) : ResultVar → Option AV
  | .tmp t => some (s.get t)
  | .cell a t =>
    (cx.ty t).bind fun i =>
      match s.get a with
      | .bp b off => (s.box b).bind fun vs => (cut off i.size vs).bind (ofCells i.agg)
      | _ => none

def resOk (cx : Cx) (fn : Func) (res : AV) (s : St) : Bool :=
  match fn.results.toList.mapM (resAV cx s) with
  | some [a] => a.le cx res
  | some l => match l.mapM oneOf with
    | some l => (AV.tup l).le cx res
    | none => false
  | none => false

def checkBody (cx : Cx) (fn : Func) (res : AV) (args : List AV) : Bool :=
  match fn.body with
  | some c =>
    match exec cx c { tm := args.zipIdx.map fun (a, i) => (i, a), bx := [] } with
    | some l => l.all fun | (.normal, s) | (.ret, s) => resOk cx fn res s | _ => false
    | none => false
  | none => false

/-- A kind that says the same whatever stands in the temporaries. -/
def AV.plain : AV → Bool
  | .bp .. | .gd .. => false
  | _ => true

/-- What is known already says it. -/
def known (cx : Cx) (i : Inst) (args : List AV) : Bool :=
  cx.insts.any fun k => k.fn == i.fn && k.args.length == args.length && ((args.zip k.args).all fun (a, b) => a.le cx b) && k.res.le cx i.res

def checkInst (P : Program) (cx : Cx) (i : Inst) : Bool :=
  match P.funcs[i.fn]? with
  | some fn => fn.ntmps == cx.ntmps && decide (fn.params.size ≤ fn.ntmps) && i.args.length == fn.params.size && !(fn.name == "runtime.NumGoroutine") && fn.body.isSome && i.args.all AV.plain && (combos i.split 0 i.args).all fun args => known cx i args || checkBody cx fn i.res args
  | none => false

end Go.Proofs.YtlbcaadflcjpeaaGreatDoor.Va
set_option linter.unusedVariables false
namespace Go.Proofs.YtlbcaadflcjpeaaGreatDoor.Va
open Go

def i64 (a b : Int) : CT := .int .i64 a b
def ic (n : Int) : CT := .int .i64 n n
def st (a b : Nat) : CT := .str a b
def nm : CT := .str 0 8
def ro (r a b : Nat) : CT := .sl r a b false
def X (k : Nat) : Nat := 10 + 3 * k
def D (k : Nat) : Nat := 11 + 3 * k
def A (k : Nat) : Nat := 12 + 3 * k

def leaf : List (List CT) := [[ic 1, nm, ic 0, .nil0, .nil0, .nil0], [ic 2, nm, ic 0, .nil0, .nil0, .nil0], [ic 3, st 0 0, i64 0 8, .nil0, .nil0, .nil0]]
def exps : Nat → List (List CT)
  | 0 => leaf
  | k + 1 => leaf ++ [
    [ic 4, st 0 0, ic 0, ro (X k) 2 2, .nil0, .nil0],
    [ic 5, nm, ic 0, ro (X k) 1 1, .nil0, .nil0],
    [ic 6, st 0 0, ic 0, ro (X k) 1 1, ro (D k) 1 1, .nil0],
    [ic 6, st 0 0, ic 0, ro (X k) 1 1, ro (D k) 2 2, .nil0],
    [ic 7, st 0 0, ic 0, ro (X k) 1 1, .nil0, ro (A k) 1 1],
    [ic 7, st 0 0, ic 0, ro (X k) 1 1, .nil0, ro (A k) 2 2],
    [ic 8, st 0 0, ic 0, ro (X k) 3 3, .nil0, .nil0],
    [ic 9, nm, ic 0, ro (X k) 2 2, .nil0, .nil0]]
def pars : List (List CT) := [[.nil0], [ro 0 1 1]]
def decs (k : Nat) : List (List CT) := pars.flatMap fun p => (exps k).map fun e => nm :: p ++ e ++ [.nil0]
def alts (k : Nat) : List (List CT) := pars.flatMap fun p => (exps k).map fun e => nm :: p ++ e
def tops : List (List CT) := pars.flatMap fun p => (exps 7).flatMap fun e => [nm :: p ++ e ++ [.nil0], nm :: p ++ e ++ [ro (D 4) 1 1]]
def tyInt : List CT := [ic 1, st 0 0, ic 0, .nil0]

def theRows : List Row := [
  { elem := 9, width := 1, els := [[nm]] },
  { elem := 9, width := 1, els := [[st 0 200]] },
  { elem := 3, width := 1, els := [[full .i64]] },
  { elem := 5, width := 1, els := [[full .u8]] },
  { elem := 91, width := 4, els := [tyInt] },
  { elem := 89, width := 2, exc := [[[st 1 1, .nil0]], [[st 1 1, ro 4 1 1]]], els := [] },
  { elem := 79, width := 2, els := [[st 1 1, ro 5 2 2]] },
  { elem := 86, width := 9, els := tops },
  { elem := 30, width := 4, els := [[i64 1 5, st 1 1500, i64 1 1501, i64 1 1501], [ic 6, st 0 1500, i64 1 1501, i64 1 1501]] },
  { elem := 9, width := 1, els := [[st 1 8]] }] ++
  (List.range 8).flatMap fun k => [{ elem := 84, width := 6, els := exps k }, { elem := 86, width := 9, els := decs k }, { elem := 127, width := 8, els := alts k }]

def theSub : List (Nat × Nat) :=
  [(0, 1)] ++ (List.range 8).map (fun k => (D k, 7)) ++
  (List.range 8).flatMap fun k => (List.range k).flatMap fun j => [(X j, X k), (D j, D k), (A j, A k)]

def zE : List CT := [ic 0, st 0 0, ic 0, .nil0, .nil0, .nil0]
def theTys : List TI := [
  ⟨3, 1, 8, .int .i64, [ic 0]⟩,
  ⟨4, 1, 1, .bool, [.bc false]⟩,
  ⟨5, 1, 1, .int .u8, [.int .u8 0 0]⟩,
  ⟨9, 1, 16, .string, [st 0 0]⟩,
  ⟨22, 1, 24, .slice 5, [.nil0]⟩,
  ⟨43, 1, 24, .slice 9, [.nil0]⟩,
  ⟨52, 1, 24, .slice 3, [.nil0]⟩,
  ⟨60, 1, 24, .slice 79, [.nil0]⟩,
  ⟨61, 1, 24, .slice 86, [.nil0]⟩,
  ⟨77, 1, 24, .slice 89, [.nil0]⟩,
  ⟨81, 1, 24, .slice 84, [.nil0]⟩,
  ⟨82, 1, 24, .slice 127, [.nil0]⟩,
  ⟨87, 1, 24, .slice 91, [.nil0]⟩,
  ⟨63, 2, 48, .struct [(0, 60), (1, 61)], [.nil0, .nil0]⟩,
  ⟨79, 2, 40, .struct [(0, 9), (1, 77)], [st 0 0, .nil0]⟩,
  ⟨84, 6, 104, .struct [(0, 3), (1, 9), (2, 3), (3, 81), (4, 61), (5, 82)], zE⟩,
  ⟨86, 9, 168, .struct [(0, 9), (1, 43), (2, 84), (8, 61)], [st 0 0, .nil0] ++ zE ++ [.nil0]⟩,
  ⟨89, 2, 40, .struct [(0, 9), (1, 87)], [st 0 0, .nil0]⟩,
  ⟨91, 4, 56, .struct [(0, 3), (1, 9), (2, 3), (3, 87)], [ic 0, st 0 0, ic 0, .nil0]⟩,
  ⟨127, 8, 144, .struct [(0, 9), (1, 43), (2, 84)], [st 0 0, .nil0] ++ zE⟩]

def theCands : List (TypeId × List Nat) := [(43, [0, 1]), (52, [2]), (22, [3]), (87, [4]), (77, [5]), (60, [6]), (61, (List.range 8).map D ++ [7]), (81, (List.range 8).map X), (82, (List.range 8).map A)]
def theHints : List (FuncId × Tmp × Nat) := [(36, 21, 7), (12, 21, 9)]

def theSplits : List (FuncId × Tmp) := [(54, 29)]

def theLive : List (FuncId × Nat × List Tmp) := [
  (5, 12, [0, 2, 3, 4]),
  (11, 12, [0, 2, 3, 4]),
  (12, 23, [0, 2, 3, 4, 5, 6]),
  (18, 32, [0, 2, 3, 4, 15]),
  (19, 16, [0, 2, 4, 5, 9]),
  (20, 12, [0, 1, 4]),
  (27, 12, [0, 1, 4]),
  (33, 31, [0, 1, 4, 5, 6, 7, 9, 11]),
  (34, 20, [0, 2, 3, 4, 8]),
  (35, 42, [0, 1, 2, 3, 4, 5, 8, 13, 29]),
  (36, 67, [0, 2, 3, 4, 47]),
  (37, 6, [0, 2]),
  (48, 58, [0, 2, 3, 34]),
  (49, 6, [0, 2]),
  (50, 25, [0, 1, 2, 3, 8, 14]),
  (51, 65, [0, 1, 2, 3, 4, 5, 6, 15, 19, 38, 52]),
  (52, 39, [0, 1, 2, 4, 5, 24]),
  (53, 2, [0]),
  (54, 220, [0, 1, 2, 3, 8, 9, 10, 11, 12, 13, 14, 15, 16, 17, 18, 19, 20, 21, 22, 26, 29, 30, 35, 39, 48, 68, 73, 114, 138, 145, 181]),
  (55, 42, [0, 1, 2, 3, 8, 9, 10, 25]),
  (56, 9, [0, 1, 4]),
  (57, 12, [0, 1, 2, 4, 5, 6]),
  (58, 5, [0, 2]),
  (76, 6, [0, 2]),
  (77, 28, [0, 2, 3, 7, 14]),
  (78, 6, [0, 2]),
  (79, 6, [0, 2]),
  (80, 13, [0, 2]),
  (81, 12, [0, 2, 3, 6, 9]),
  (82, 18, [0, 1, 4, 5, 9, 17]),
  (86, 92, [0, 1, 2, 4, 5, 6, 7, 8, 9, 17, 28, 33, 62, 67, 76]),
  (87, 89, [0, 1, 2, 6, 7, 8, 9, 14, 22, 27, 40, 56, 77]),
  (88, 13, [0, 1, 2, 3, 4, 11]),
  (89, 13, [0, 2, 3, 4, 7]),
  (90, 25, [0, 1, 4, 5, 6, 11, 15]),
  (91, 19, [0, 1, 2, 3, 6, 7, 14]),
  (92, 26, [0, 1, 4, 5, 6, 10, 14]),
  (93, 5, [0, 2]),
  (94, 9, [0, 1, 2, 3, 4]),
  (95, 29, [0, 1, 4, 5, 6, 11, 20]),
  (96, 33, [0, 1, 2, 3, 8, 9, 11]),
  (97, 81, [0, 1, 2, 3, 8, 9, 10, 11, 44]),
  (98, 20, [0, 1, 2, 3, 8, 10]),
  (105, 15, [0, 1, 2, 6]),
  (106, 6, [0, 2]),
  (107, 15, [0, 2]),
  (108, 10, [0, 2]),
  (111, 6, [0, 2]),
  (112, 41, [0, 1, 2, 4, 5, 6, 7, 12, 23, 37]),
  (113, 75, [0, 1, 2, 4, 32, 34, 35, 38, 52, 53, 58]),
  (114, 34, [0, 2, 3, 7, 14, 30]),
  (115, 80, [0, 1, 2, 4, 5, 6, 7, 14, 23, 44, 53, 71]),
  (116, 87, [0, 1, 2, 4, 5, 6, 7, 8, 9, 10, 13, 17, 21, 27, 40, 75]),
  (117, 135, [0, 1, 2, 4, 5, 6, 8, 9, 14, 19, 35, 48, 68, 84, 113]),
  (118, 20, [0, 1, 2, 4, 5, 9, 11, 14, 15, 17]),
  (124, 18, [0, 2, 3, 7, 14]),
  (127, 93, [0, 1, 2, 41, 43, 44, 49, 54, 64, 74, 79]),
  (128, 22, [0, 1, 2]),
  (129, 20, [0, 2, 4]),
  (130, 41, [0, 1, 4, 5, 6, 10]),
  (133, 17, [0, 2, 3, 4, 8, 12, 15]),
  (134, 6, [0, 2])]


/-! ### The instances, in their order -/
def c1 : AV := .one [.cur]
def ints (a b : Int) : AV := .one [i64 a b]
def bo : AV := .one [.bl]
def sv (n : Nat) : AV := .one [st 0 n]
def lv (r a b : Nat) : AV := .one [ro r a b]
def xv (k : Nat) : AV := .agg (exps k)
def dv (k : Nat) : AV := .agg (decs k)
def av (k : Nat) : AV := .agg (alts k)
def fI : AV := .one [full .i64]
def fB : AV := .one [full .u8]

def base : List Inst := [{ fn := 48, args := [c1], res := ints 0 255 }]

def small1 : List Inst :=
  (List.range 40).map (fun n => { fn := 33, args := [c1, ints (n + 1) (n + 1)], res := ints 0 n }) ++
  (List.range 12).map (fun n => { fn := 56, args := [c1, ints (n + 1) (n + 1)], res := bo }) ++ [
  { fn := 20, args := [c1, lv 1 1 40], res := sv 200, split := [1] },
  { fn := 20, args := [c1, lv 0 1 40], res := .one [nm], split := [1] },
  { fn := 27, args := [c1, lv 2 1 10], res := fI, split := [1] },
  { fn := 49, args := [c1], res := .one [nm] },
  { fn := 34, args := [c1], res := sv 300 },
  { fn := 37, args := [c1], res := sv 200 },
  { fn := 53, args := [], res := .agg [tyInt] },
  { fn := 93, args := [ints 0 8], res := .agg [[ic 3, st 0 0, i64 0 8, .nil0, .nil0, .nil0]] },
  { fn := 58, args := [.one [nm]], res := .agg [[ic 1, nm, ic 0, .nil0, .nil0, .nil0]] },
  { fn := 105, args := [fI, fI, fI], res := bo },
  { fn := 105, args := [ints 0 0, ints 1 1, ints 8 8], res := .one [.bc false] },
  { fn := 78, args := [fB], res := bo },
  { fn := 79, args := [fB], res := bo },
  { fn := 76, args := [fB], res := bo },
  { fn := 80, args := [fB], res := bo },
  { fn := 124, args := [.one [nm]], res := bo, split := [0] },
  { fn := 124, args := [.one [st 0 0]], res := .one [.bc false], split := [0] },
  { fn := 82, args := [lv 0 0 12, .one [nm]], res := bo, split := [0] },
  { fn := 106, args := [.one [nm]], res := bo },
  { fn := 107, args := [.one [nm]], res := bo, split := [0] },
  { fn := 108, args := [.one [nm]], res := bo, split := [0] },
  { fn := 111, args := [.one [nm]], res := bo }] ++ (List.range 9 ++ (List.range 9).reverse).map fun n => { fn := 95, args := [lv 0 0 (n + 1), lv 0 0 1], res := lv 0 0 (n + 1), split := [0, 1] }

def binE (k : Nat) : AV := .agg [[ic 9, nm, ic 0, ro (X k) 2 2, .nil0, .nil0]]
def appE (k : Nat) : AV := .agg [[ic 4, st 0 0, ic 0, ro (X k) 2 2, .nil0, .nil0]]

def small2 : List Inst := (List.range 7).reverse.flatMap fun k => [
  { fn := 94, args := [xv k, xv k], res := appE k },
  { fn := 57, args := [.one [nm], xv k, xv k], res := binE k }]

/-- The draws of expressions, by how deep. -/
def deep (d : Nat) : AV := if d = 0 then ints (-9) 0 else ints d d
def drawn (d : Nat) : List Inst :=
  let l : AV := lv 0 0 (9 - 2 * d)
  let i : Inst := { fn := 54, args := [c1, deep d, l, l], res := xv (2 * d), split := [102, 103] }
  (if d = 0 then [] else [({ fn := 97, args := [c1, deep d, l, l], res := xv (2 * d) } : Inst)]) ++ [i]
    ++ [{ fn := 96, args := [c1, ints d d, l, l], res := xv (if d = 0 then 1 else 2 * d - 1) },
        { fn := 98, args := [c1, ints d d, l, l], res := xv (if d = 0 then 1 else 2 * d - 1) }]

def progV : AV := .agg [[ro 6 1 1, ro 7 4 4]]
def dec1 : AV := .agg tops
def drawns : List Inst :=
  (List.range 4).flatMap drawn ++ [
  { fn := 55, args := [c1, .one [nm], lv 0 0 1, lv 0 0 1], res := dec1 },
  { fn := 36, args := [c1], res := progV }]

/-! ### Is it right -/
def cN (k : Nat) : Int := 2000 * 12 ^ k
def checks (k : Nat) : List Inst := [
  { fn := 127, args := [xv k], res := bo, split := [0] },
  { fn := 128, args := [av k], res := bo },
  { fn := 115, args := [xv k, fI], res := ints 0 (cN k), split := [0] },
  { fn := 87, args := [lv (D k) 0 2, ints 6 12, fI], res := ints 0 (4 * cN k + 2000), split := [0] }]
def rights : List Inst := [
  { fn := 133, args := [ints 0 9], res := ints (-1) 3 },
  { fn := 134, args := [.one [nm]], res := bo },
  { fn := 114, args := [lv 0 0 1], res := bo, split := [0] }] ++
  (List.range 8).flatMap checks ++ [
  { fn := 87, args := [lv 7 4 4, ints 6 12, fI], res := ints 0 (cN 9) },
  { fn := 113, args := [.agg [tyInt], fI], res := fI },
  { fn := 112, args := [progV, .one [nm]], res := ints 0 10 },
  { fn := 86, args := [progV, ints 0 0], res := bo },
  { fn := 50, args := [progV], res := bo }]

/-! ### As text -/
def bN (k : Nat) : Nat := 300 * 5 ^ (k + 1)
def texts (k : Nat) : List Inst := [
  { fn := 117, args := [xv k, ints 0 (60 - 6 * k)], res := sv (bN k), split := [0] },
  { fn := 91, args := [xv k, ints 0 6, ints 0 (60 - 6 * k)], res := sv (bN k + 2), split := [0] },
  { fn := 52, args := [dv k, ints 0 (58 - 6 * k)], res := sv (bN k + 200) },
  { fn := 92, args := [lv (D k) 1 2, ints 0 (58 - 6 * k)], res := sv (2 * bN k + 500), split := [0] },
  { fn := 130, args := [lv (A k) 1 2, ints 0 (58 - 6 * k)], res := sv (2 * bN k + 500), split := [0] }]
def written : List Inst := [
  { fn := 129, args := [ints 0 8], res := sv 1 },
  { fn := 89, args := [ints 0 60], res := sv 60 },
  { fn := 90, args := [.one [nm], lv 0 0 1], res := sv 20, split := [1] },
  { fn := 116, args := [.agg [tyInt], fI], res := .tup [[st 0 10], [.bl]] },
  { fn := 88, args := [.agg [tyInt]], res := sv 10 },
  { fn := 51, args := [.agg [[st 1 1, ro 5 2 2]]], res := sv 100 }] ++
  (List.range 8).map (fun k => { fn := 118, args := [xv k], res := ints 0 5, split := [0] }) ++
  (List.range 8).flatMap texts ++ [
  { fn := 52, args := [dec1, ints 0 0], res := sv (4 * bN 7), split := [0] },
  { fn := 35, args := [progV], res := sv (20 * bN 7) },
  { fn := 19, args := [c1], res := sv (20 * bN 7) },
  { fn := 20, args := [c1, lv 9 1 2], res := .one [st 1 8], split := [1] }]

def theInsts : List Inst := small1 ++ small2 ++ drawns ++ rights ++ written

def theCx : Cx := { rows := theRows, sub := theSub, tys := theTys, cands := theCands, hints := theHints, splits := theSplits, insts := [], fn := 0, ntmps := 0, live := [] }

/-- The checker's table for a function, with what is known. -/
def cxOf (f : FuncId) (known : List Inst) : Cx :=
  match theLive.find? (·.1 == f) with
  | some (_, n, l) => { theCx with insts := known, fn := f, ntmps := n, live := l }
  | none => theCx

end Go.Proofs.YtlbcaadflcjpeaaGreatDoor.Va
