/- A plain model of what a call does, without addresses, capacities and orders: values are trees, slices are lists. The evaluation 'runK' of a function's body in it. The steps of 'runK', one equation each: for 'simp only'. What is computed first stands as the last argument of a function of its own ('c..'), so that nothing is gone into ahead of its time. Plain laws of memory, used by all walks of this seat: what changed between two worlds ('Only'), a block known whole ('Blk'). No program in sight. -/
import Derived.WalkKit
import Derived.WalkSpells
import Derived.Deep.Draws
import Derived.Laws.Rows
import Derived.Maps.AppendAt
import Derived.Deep.AppendLies
import Derived.Laws.ResultCell
namespace Go.Proofs.YtngphebjmmencaaDoor
set_option linter.unusedSimpArgs false
set_option linter.unusedVariables false
open Go

inductive AV where
  | junk
  | bool (b : Bool)
  | int (k : IntKind) (n : Int)
  | str (s : List UInt8)
  | nilp
  | ptr (b i off : Nat)
  | tptr (t : TypeId) (b : Nat)
  | ip (e : List AV) (off : Nat)
  | nils
  | isl (id : Option Nat) (el : TypeId) (es : List (List AV))
  | msl (b o n : Nat) (el : TypeId)
  | fn (f : FuncId) (first captured : List AV)
  | nilf
  | nili
  | iface (t : TypeId) (v : AV)
  | agg (cs : List AV)
  | tup (vs : List AV)
  deriving Inhabited

abbrev i64 (n : Int) : AV := .int .i64 n

def AV.cells : AV → List AV
  | .agg cs => cs
  | v => [v]
def AV.one : AV → Bool
  | .junk | .agg _ | .tup _ => false
  | _ => true

/-- memory that may turn: blocks of rows of cells; and how many elements stand in the row at whose end a slice may grow -/
structure AH where
  n : Nat
  cell : Nat → Option (List (List AV))
  ids : Nat
  hw : Nat → Nat

def AH.set (h : AH) (b : Nat) (es : Option (List (List AV))) : AH := { h with cell := fun k => if k = b then es else h.cell k }
def AH.push (h : AH) (es : List (List AV)) : AH := { h with n := h.n + 1, cell := fun k => if k = h.n then some es else h.cell k }
def AH.grow (h : AH) (id m : Nat) : AH := { h with hw := fun k => if k = id then m else h.hw k }
def AH.fresh (h : AH) (m : Nat) : AH := { h with ids := h.ids + 1, hw := fun k => if k = h.ids then m else h.hw k }

def scalarA : Value → AV
  | .bool b => .bool b
  | .int k n => .int k n
  | .string s => .str s.data.toList
  | .pointer none => .nilp
  | .slice none 0 0 => .nils
  | .nilFunc => .nilf
  | .nilIface => .nili
  | _ => .junk
def constA : Value → AV
  | .agg cs => .agg (cs.toList.map scalarA)
  | v => scalarA v

def evA (t : List AV) : Operand → AV
  | .tmp i => t.getD i .junk
  | .const v => constA v
  | .func f => .fn f [] []
  | .global _ => .junk

def putA (t : List AV) (d : Option Tmp) (v : AV) : List AV :=
  match d with
  | some i => t.set i v
  | none => t

section
variable (P : Program)
def szA (t : TypeId) : Nat := P.cellsOf t
def aggA (t : TypeId) : Bool := match P.underlying t with
  | some (.struct _) | some (.array ..) => true
  | _ => false
def zeroA (t : TypeId) : Option (List AV) := if t < P.types.size then (P.info? t).bind fun i => i.zero.map fun v => (constA v).cells else none
def fieldsA (t : TypeId) : Option (List (Nat × TypeId)) := match P.underlying t with
  | some (.struct fs) => some (fs.toList.map fun f => (f.offset, f.type))
  | _ => none
def elemA (t : TypeId) : Option TypeId := if t < P.types.size then match P.underlying t with
  | some (.slice e) => some e
  | _ => none else none
def arrA (t : TypeId) : Option (Nat × TypeId) := match P.underlying t with
  | some (.array n e) => some (n, e)
  | _ => none

inductive Kd where
  | bool | int (k : IntKind) | str | ptr | slice | iface | func | agg | other
def kindA (t : TypeId) : Kd := match P.underlying t with
  | some .bool => .bool
  | some (.int k) => .int k
  | some .string => .str
  | some (.pointer _) => .ptr
  | some (.slice _) => .slice
  | some (.interface _) => .iface
  | some (.func ..) => .func
  | some (.struct _) | some (.array ..) => .agg
  | _ => .other
end

def isStrT (P : Program) (t : TypeId) : Bool := match P.underlying t with
  | some .string => true
  | _ => false
def isSlcT (P : Program) (t : TypeId) : Bool := (elemA P t).isSome
def plainT (P : Program) (t : TypeId) : Bool := match P.underlying t with
  | some (.interface _) => false
  | some _ => true
  | none => false
def fitsT (P : Program) (t : TypeId) : AV → Bool
  | .str _ => isStrT P t
  | .isl _ el _ => elemA P t == some el
  | .msl _ _ _ el => elemA P t == some el
  | .nils => isSlcT P t
  | _ => false

def ldA (agg : Bool) (n : Nat) (e : List AV) (off : Nat) : Option AV :=
  if agg then (if off + n ≤ e.length then some (.agg ((e.drop off).take n)) else none) else e[off]?
def stA (e : List AV) (off : Nat) (cs : List AV) : List AV := e.take off ++ cs ++ e.drop (off + cs.length)

def AH.row (h : AH) (b i : Nat) : Option (List AV) := (h.cell b).bind (·[i]?)

def loadA (agg : Bool) (n : Nat) (h : AH) : AV → Option AV
  | .ptr b i off => (h.row b i).bind fun e => ldA agg n e off
  | .tptr _ b => (h.row b 0).bind fun e => ldA agg n e 0
  | .ip e off => ldA agg n e off
  | _ => none
def storeA (n : Nat) (h : AH) (a x : AV) : Option AH :=
  match a with
  | .ptr b i off => (h.cell b).bind fun es => (es[i]?).bind fun e =>
      if x.cells.all AV.one ∧ x.cells.length = n ∧ off + n ≤ e.length then some (h.set b (some (es.set i (stA e off x.cells)))) else none
  | .tptr _ b => (h.cell b).bind fun es => (es[0]?).bind fun e =>
      if x.cells.all AV.one ∧ x.cells.length = n ∧ 0 + n ≤ e.length then some (h.set b (some (es.set 0 (stA e 0 x.cells)))) else none
  | _ => none

def fillA : List (Nat × Nat) → List AV → List (Nat × AV) → Option (List AV)
  | _, cs, [] => some cs
  | pl, cs, (i, v) :: r => match pl[i]? with
    | some (off, size) => if v.cells.length = size ∧ off + size ≤ cs.length ∧ v.cells.all AV.one then fillA pl (stA cs off v.cells) r else none
    | none => none
def fillE : Nat → List (List AV) → List (Nat × AV) → Option (List (List AV))
  | _, es, [] => some es
  | sz, es, (i, v) :: r => if v.cells.length = sz ∧ i < es.length ∧ v.cells.all AV.one then fillE sz (es.set i v.cells) r else none

def intA (op : BinOp) (k : IntKind) (a b : Int) : Option AV :=
  match op with
  | .add => some (.int k (k.wrap (a + b)))
  | .sub => some (.int k (k.wrap (a - b)))
  | .mul => some (.int k (k.wrap (a * b)))
  | .eql => some (.bool (a == b))
  | .neq => some (.bool (a != b))
  | .lss => some (.bool (a < b))
  | .leq => some (.bool (a ≤ b))
  | .gtr => some (.bool (a > b))
  | .geq => some (.bool (a ≥ b))
  | .and => some (.int k (k.wrap (BitVec.ofInt k.bits a &&& BitVec.ofInt k.bits b).toNat))
  | .or => some (.int k (k.wrap (BitVec.ofInt k.bits a ||| BitVec.ofInt k.bits b).toNat))
  | .andNot => some (.int k (k.wrap (BitVec.ofInt k.bits a &&& ~~~(BitVec.ofInt k.bits b)).toNat))
  | .rem => if b = 0 then none else some (.int k (a.tmod b))
  | _ => none

/-- are two values of a type the same? -/
def eqA : Kd → AV → AV → Option Bool
  | .bool, .bool a, .bool b => some (a == b)
  | .ptr, .nilp, .nilp => some true
  | .ptr, .nilp, .ptr .. => some false
  | .ptr, .nilp, .ip .. => some false
  | .ptr, .nilp, .tptr .. => some false
  | .ptr, .tptr .., .nilp => some false
  | .ptr, .ptr .., .nilp => some false
  | .ptr, .ip .., .nilp => some false
  | .slice, .nils, .nils => some true
  | .slice, .isl .., .nils => some false
  | .slice, .msl .., .nils => some false
  | .slice, .nils, .isl .. => some false
  | .slice, .nils, .msl .. => some false
  | .func, .nilf, .nilf => some true
  | .func, .fn .., .nilf => some false
  | .func, .nilf, .fn .. => some false
  | .iface, .iface .., .nili => some false
  | .iface, .nili, .iface .. => some false
  | _, _, _ => none

def binA (kd : Kd) (op : BinOp) (x y : AV) : Option AV :=
  match x, y with
  | .int k a, .int k' b =>
    match op with
    | .shl => if b < 0 then none else some (.int k (k.wrap (a * 2 ^ min b.toNat k.bits)))
    | .shr => if b < 0 then none else some (.int k (a.fdiv (2 ^ min b.toNat k.bits)))
    | _ => if k = k' then intA op k a b else none
  | .str a, .str b => match op with
    | .add => if a.length + b.length ≤ 1000000000000 then some (.str (a ++ b)) else none
    | .eql => some (.bool (a == b))
    | .neq => some (.bool (a != b))
    | _ => none
  | x, y => match op with
    | .eql => (eqA kd x y).map .bool
    | .neq => (eqA kd x y).map fun b => .bool !b
    | _ => none

/-- rows of scalars, compared cell by cell -/
def eqCells : List Kd → List AV → List AV → Option Bool
  | [], [], [] => some true
  | .int _ :: ks, .int k a :: xs, .int k' b :: ys => if k = k' then (eqCells ks xs ys).map fun r => (a == b) && r else none
  | .bool :: ks, .bool a :: xs, .bool b :: ys => (eqCells ks xs ys).map fun r => (a == b) && r
  | .str :: ks, .str a :: xs, .str b :: ys => (eqCells ks xs ys).map fun r => (a == b) && r
  | _, _, _ => none
/-- is a type a struct of numbers, bools and strings? their kinds -/
def flatK (P : Program) (t : TypeId) : Option (List Kd) := match P.underlying t with
  | some (.struct fs) => if !P.stoodInHeld t && !P.eqGuardType P.depth t && (fs.toList.zipIdx.all fun (f, i) => f.name != "_" && f.offset == i && P.cellsOf f.type == 1) then some (fs.toList.map fun f => kindA P f.type) else none
  | _ => none

/-- a call of a Go function: which one, and its arguments -/
def calleeA (t : List AV) (o : Oper) : Option (FuncId × List AV) :=
  match o.op with
  | .call { callee := .value f, args, .. } => match evA t f with
    | .fn g first captured => some (g, first ++ args.toList.map (evA t) ++ captured)
    | _ => none
  | _ => none

def lenA : AV → Option Nat
  | .nils => some 0
  | .isl _ _ es => some es.length
  | .msl _ _ n _ => some n
  | .str s => some s.length
  | _ => none
/-- the elements of a slice -/
def elemsA (h : AH) (sz : TypeId) : AV → Option (List (List AV))
  | .nils => some []
  | .isl _ z es => if z = sz then some es else none
  | .msl b o n z => if z = sz then (h.cell b).bind fun es => if o + n ≤ es.length then some ((es.drop o).take n) else none else none
  | _ => none

/-- nothing is appended -/
def sameA (el : TypeId) (s : AV) (h : AH) : Option (AV × AH) := match s with
  | .nils => some (.nils, h)
  | .isl id z es => if z = el then some (.isl id z es, h) else none
  | .msl b o n z => if z = el then some (.msl b o n z, h) else none
  | _ => none
def moreA (mu : Bool) (el : TypeId) (s : AV) (new : List (List AV)) (h : AH) : Option (AV × AH) :=
  if 0 < new.length ∧ new.length ≤ 1000000 ∧ new.all (·.all AV.one) then
    match s with
    | .nils => if mu then some (.msl h.n 0 new.length el, h.push new) else some (.isl (some h.ids) el new, h.fresh new.length)
    | .isl (some k) z es => if z = el ∧ h.hw k = es.length ∧ es.length ≤ 1000000 then some (.isl (some k) el (es ++ new), h.grow k (es.length + new.length)) else none
    | .msl b o n z => if z = el ∧ o = 0 ∧ n ≤ 1000000 then
        (h.cell b).bind fun es => if n ≤ es.length then some (.msl h.n 0 (n + new.length) el, (h.set b none).push (es.take n ++ new)) else none
      else none
    | _ => none
  else none
def appendA (mu : Bool) (el : TypeId) (s x : AV) (h : AH) : Option (AV × AH) :=
  match x with
  | .nils => sameA el s h
  | x => (elemsA h el x).bind fun new => if new.length = 0 then sameA el s h else moreA mu el s new h

/-- bytes as rows of a cell -/
abbrev bytesA (l : List UInt8) : List (List AV) := l.map fun c => [.int .u8 c.toNat]
/-- is a type that of bytes? -/
def u8OK (P : Program) (e : TypeId) : Bool := match P.info? e with
  | some i => (match i.zero with | some (.int .u8 n) => n == 0 | _ => false) && i.size == 1 && i.bytes == 1
  | none => false
/-- a text is appended to bytes -/
def appendS (mu : Bool) (el : TypeId) (s x : AV) (h : AH) : Option (AV × AH) :=
  match x with
  | .str l => if l.length = 0 then sameA el s h else if l.length ≤ 1000000000 then (match s with
    | .nils => if mu then some (.msl h.n 0 l.length el, h.push (bytesA l)) else none
    | .msl b o n z => if z = el ∧ o = 0 ∧ n ≤ 1000000000 then
        (h.cell b).bind fun es => if n ≤ es.length then some (.msl h.n 0 (n + l.length) el, (h.set b none).push (es.take n ++ bytesA l)) else none
      else none
    | _ => none) else none
  | _ => none

def loA : Option AV → Option Int
  | none => some 0
  | some (.int _ l) => some l
  | _ => none
def hiA (n : Nat) : Option AV → Option Int
  | none => some n
  | some (.int _ r) => some r
  | _ => none
def cutA (x : AV) (l r : Int) : Option AV :=
  match x with
  | .str s => some (.str ((s.drop l.toNat).take (r.toNat - l.toNat)))
  | .isl _ z es => some (.isl none z ((es.drop l.toNat).take (r.toNat - l.toNat)))
  | .nils => some .nils
  | .msl b o _ z => if l = 0 then some (.msl b o r.toNat z) else none
  | _ => none
def sliceA (x : AV) (lo hi : Option AV) : Option AV :=
  (loA lo).bind fun l => (lenA x).bind fun n => (hiA n hi).bind fun r => if 0 ≤ l ∧ l ≤ r ∧ r ≤ n then cutA x l r else none

def unA (op : UnOp) (x : AV) : Option AV :=
  match op, x with
  | .not, .bool b => some (.bool !b)
  | .neg, .int k n => some (.int k (k.wrap (0 - n)))
  | _, _ => none
def cvA (kd : Kd) (x : AV) : Option AV :=
  match kd, x with
  | .int k, .int _ n => some (.int k (k.wrap n))
  | .str, .str s => some (.str s)
  | _, _ => none
/-- the lesser, the greater of two numbers -/
def mmA (mx : Bool) : AV → AV → Option AV
  | .int k a, .int _ b => some (.int k (if mx then (if b > a then b else a) else (if b < a then b else a)))
  | _, _ => none
def fldA (off : Nat) : AV → Option AV
  | .ptr b i o => some (.ptr b i (o + off))
  | .tptr t b => some (if off = 0 then .tptr t b else .ptr b 0 off)
  | .ip e o => some (.ip e (o + off))
  | _ => none
def ixAddrA (P : Program) (ty : TypeId) (x k : AV) : Option AV :=
  match x, k with
  | .isl _ el es, .int _ k => if elemA P ty = some el ∧ 0 ≤ k then (es[k.toNat]?).map fun e => .ip e 0 else none
  | .msl b o n el, .int _ k => if elemA P ty = some el ∧ 0 ≤ k ∧ k < n then some (.ptr b (o + k.toNat) 0) else none
  | .ptr b i off, .int _ k => (arrA P ty).bind fun q => if szA P q.2 ≠ 0 ∧ 0 ≤ k ∧ k < q.1 then some (.ptr b i (off + k.toNat * szA P q.2)) else none
  | .ip e off, .int _ k => (arrA P ty).bind fun q => if szA P q.2 ≠ 0 ∧ 0 ≤ k ∧ k < q.1 then some (.ip e (off + k.toNat * szA P q.2)) else none
  | _, _ => none
def ixA (P : Program) (ty : TypeId) (x k : AV) : Option AV :=
  match x, k with
  | .str s, .int _ k => if isStrT P ty = true ∧ 0 ≤ k then (s[k.toNat]?).map fun c => .int .u8 c.toNat else none
  | .agg cs, .int _ k => (arrA P ty).bind fun q => if (P.underlying q.2).isSome ∧ szA P q.2 ≠ 0 ∧ 0 ≤ k ∧ k < q.1 then ldA (aggA P q.2) (szA P q.2) cs (k.toNat * szA P q.2) else none
  | _, _ => none

/-- an operation that only computes -/
def pureOp (P : Program) (t : List AV) (o : Oper) : Option AV :=
  match o.op with
  | .move x => some (evA t x)
  | .assign x => some (evA t x)
  | .pick c a b => match evA t c with
    | .bool v => some (if v then evA t a else evA t b)
    | _ => none
  | .build ty parts => (zeroA P ty).bind fun z => match fieldsA P ty with
    | some pl => if pl.all (fun q => szA P q.2 != 0) then (fillA (pl.map fun q => (q.1, szA P q.2)) z (parts.toList.map fun q => (q.1, evA t q.2))).map .agg else none
    | none => (arrA P ty).bind fun q => if szA P q.2 = 0 then none else (fillA ((List.range q.1).map fun i => (i * szA P q.2, szA P q.2)) z (parts.toList.map fun q => (q.1, evA t q.2))).map .agg
  | .nilCheck x => match evA t x with
    | .ptr b i off => some (.ptr b i off)
    | .tptr t b => some (.tptr t b)
    | .ip e off => some (.ip e off)
    | .fn f a c => some (.fn f a c)
    | .iface q v => some (.iface q v)
    | _ => none
  | .binOp op ty x y _ => match evA t x, evA t y with
    | .nili, .nili => match kindA P ty, y, op with
      | .iface, .const _, .eql => some (.bool true)
      | .iface, .const _, .neq => some (.bool false)
      | _, _, _ => none
    | .agg xs, .agg ys => (flatK P ty).bind fun ks => match op with
      | .eql => (eqCells ks xs ys).map fun b => .bool b
      | .neq => (eqCells ks xs ys).map fun b => .bool !b
      | _ => none
    | a, b => binA (kindA P ty) op a b
  | .unOp op _ x => unA op (evA t x)
  | .convert src dst x => if (P.underlying src).isNone then none else cvA (kindA P dst) (evA t x)
  | .makeInterface ty x => if plainT P ty = false then none else if (evA t x).one then some (.iface ty (evA t x)) else match evA t x with
    | .agg cs => some (.iface ty (.agg cs))
    | _ => none
  | .makeFunc f first captured => match f with
    | .func g => some (.fn g (first.toList.map (evA t)) (captured.toList.map (evA t)))
    | _ => none
  | .slice ty x lo hi mx => if mx.isSome || !fitsT P ty (evA t x) then none else sliceA (evA t x) (lo.map (evA t)) (hi.map (evA t))
  | .fieldAddr s x f => ((fieldsA P s).bind (·[f]?)).bind fun q => if szA P q.2 = 0 then none else fldA q.1 (evA t x)
  | .field s x f => ((fieldsA P s).bind (·[f]?)).bind fun q => match evA t x with
    | .agg cs => if szA P q.2 = 0 ∨ (P.underlying q.2).isNone then none else ldA (aggA P q.2) (szA P q.2) cs q.1
    | _ => none
  | .indexAddr ty x ix => ixAddrA P ty (evA t x) (evA t ix)
  | .index ty x ix => ixA P ty (evA t x) (evA t ix)
  | .typeAssert x _ as ok => match evA t x with
    | .iface q v => if plainT P as = true ∧ q = as then some (if ok then .tup [v, .bool true] else v) else none
    | _ => none
  | .extract x i => match evA t x with
    | .tup vs => vs[i]?
    | _ => none
  | .call { callee := .builtin .len, args, argTypes } => match args.toList, argTypes.toList with
    | [x], ty :: _ => if fitsT P ty (evA t x) then (lenA (evA t x)).map fun (n : Nat) => i64 n else none
    | _, _ => none
  | .call { callee := .builtin .min, args, .. } => match args.toList with
    | [x, y] => mmA false (evA t x) (evA t y)
    | _ => none
  | .call { callee := .builtin .max, args, .. } => match args.toList with
    | [x, y] => mmA true (evA t x) (evA t y)
    | _ => none
  | _ => none

def evalOp (P : Program) (mu : TypeId → Bool) (t : List AV) (h : AH) (o : Oper) : Option (AV × AH) :=
  match o.op with
  | .alloc e => (zeroA P e).map fun z => (if mu e then .tptr e h.n else .ptr h.n 0 0, h.push [z])
  | .box e x => if (evA t x).cells.all AV.one ∧ (evA t x).cells.length = szA P e then some (if mu e then .tptr e h.n else .ptr h.n 0 0, h.push [(evA t x).cells]) else none
  | .buildSlice ty len parts => (elemA P ty).bind fun e => (zeroA P e).bind fun z => if len * szA P e ≤ 16777216 then
      (fillE (szA P e) (List.replicate len z) (parts.toList.map fun q => (q.1, evA t q.2))).map fun es =>
        if mu ty then (.msl h.n 0 len e, h.push es) else (.isl (some h.ids) e es, h.fresh len)
      else none
  | .load ty a => if (P.underlying ty).isNone then none else (loadA (aggA P ty) (szA P ty) h (evA t a)).map fun v => (v, h)
  | .store ty a x => if szA P ty = 0 then none else (storeA (szA P ty) h (evA t a) (evA t x)).map fun h' => (.junk, h')
  | .makeSlice ty l c => match evA t l, evA t c with
    | .int _ n, .int _ m => (elemA P ty).bind fun e => (zeroA P e).bind fun z =>
        if 0 ≤ n ∧ n = m ∧ n ≤ 100000 then some (.msl h.n 0 n.toNat e, h.push (List.replicate n.toNat z)) else none
    | _, _ => none
  | .call { callee := .builtin .append, args, argTypes } => match args.toList, argTypes.toList with
    | [x, y], [ty, ty'] => if ty = ty' then (elemA P ty).bind fun e => if (zeroA P e).isSome then appendA (mu ty) e (evA t x) (evA t y) h else none
      else if isStrT P ty' then (elemA P ty).bind fun e => if u8OK P e then appendS (mu ty) e (evA t x) (evA t y) h else none else none
    | _, _ => none
  | _ => (pureOp P t o).map fun v => (v, h)

/-- a panic of the program's own -/
def panA (t : List AV) (o : Oper) : Option AV :=
  match o.op with
  | .panic x => match evA t x with
    | .iface q v => some (.iface q v)
    | _ => none
  | _ => none

/-- is an operation wanted? -/
def wantedA (ops : Array Oper) (t : List AV) (o : Oper) : Option Bool :=
  match o.guard with
  | none => some true
  | some (j, want) => match (ops[j]?).bind (·.dst) with
    | some d => match t.getD d .junk with
      | .bool b => some (if want then b else !b)
      | .tup _ => some false
      | _ => none
    | none => none

inductive AItem where
  | code (c : Code)
  | inBlock (id : Nat)
  | inLoop (c : Code)
  | ops (draw : Bool) (all : Array Oper) (l : List (Oper × List Oper))
  | halt (K : List Item)

def exitA (id : Nat) : List AItem → Option (List AItem)
  | [] => none
  | .inBlock i :: k => if i = id then some k else exitA id k
  | .halt _ :: _ => none
  | _ :: k => exitA id k

inductive AEx where
  | ret
  | panic (v : AV)
  | halt (K : List Item)

/-- what a function answers -/
def resL (P : Program) (t : List AV) (h : AH) : List ResultVar → Option (List AV)
  | [] => some []
  | .tmp i :: rs => (resL P t h rs).map fun l => t.getD i .junk :: l
  | .cell i ty :: rs => if (P.underlying ty).isNone then none else (loadA (aggA P ty) (szA P ty) h (t.getD i .junk)).bind fun v => (resL P t h rs).map fun l => v :: l
def oneA : List AV → AV
  | [v] => v
  | vs => .tup vs
def resA (fn : Func) (t : List AV) (h : AH) (P : Program) : Option AV := (resL P t h fn.results.toList).map oneA

/-! ### statements whose order Go leaves open: an order in which it is enough to go, and what must stay -/
def looksA (ops : Array Oper) (o : Oper) : List Tmp := o.looksAt ops
def stillA (o : Oper) : Bool := match o.op with
  | .alloc _ | .box .. | .buildSlice .. | .store .. | .makeSlice .. | .panic _ => false
  | .call { callee := .builtin .append, .. } => false
  | .call { callee := .value _, .. } => false
  | _ => true
def isLoad (o : Oper) : Bool := match o.op with
  | .load .. => true
  | _ => false
/-- must i come ahead of j? -/
def preA (M : Array Nat) (i j : Nat) : Bool := (M.getD j 0).testBit i
/-- each that must come ahead is one that an edge names, or must come ahead of one -/
def maskOK (ops : Array Oper) (M : Array Nat) : Bool :=
  (List.range ops.size).all fun j => (List.range ops.size).all fun i => !preA M i j || ((ops[j]?).any fun o => o.after.any fun e => Region.binds .any e && decide (e.on < j) && (e.on == i || preA M i e.on))
def pairOK (ops : Array Oper) (M : Array Nat) (x y : Nat × List Nat) : Bool :=
  let ox := ops.getD x.1 default
  let oy := ops.getD y.1 default
  x.1 != y.1 &&
  -- y is named by no edge of x, and must not come ahead of x
  !(ox.after.any fun e => Region.binds .any e && e.on == y.1) && !preA M y.1 x.1 &&
  (stillA ox || preA M x.1 y.1) &&
  (stillA oy || !isLoad ox || preA M x.1 y.1 || y.2.contains x.1) &&
  (match oy.dst with | some d => !(ox.looksAt ops).contains d && ox.dst != some d | none => true) &&
  (match ox.dst with | some d => !(oy.looksAt ops).contains d || preA M x.1 y.1 | none => true)
def pairsOK (ops : Array Oper) (M : Array Nat) : List (Nat × List Nat) → Bool
  | [] => true
  | x :: r => r.all (pairOK ops M x) && pairsOK ops M r
def planOK (ops : Array Oper) (pl : List (Nat × List Nat)) : Bool :=
  let M := Region.before ops
  (List.range ops.size).all (fun i => pl.any fun q => q.1 == i) && pl.all (fun q => decide (q.1 < ops.size) && (let o := ops.getD q.1 default
    (match o.dst with | some d => !(o.looksAt ops).contains d | none => true) && (!stillA o || q.2.isEmpty) && (match o.op with | .select .. => false | _ => true) && q.2.all fun i => decide (i < ops.size))) &&
  ((List.range ops.size).all fun j => (ops.getD j default).after.all fun e => !Region.binds .any e || decide (e.on < j)) &&
  maskOK ops M && pairsOK ops M pl
/-- slots that no operation of a statement is laid in -/
def keepOK (S : Nat → Bool) (ops : Array Oper) : Bool := ops.toList.all fun o => match o.dst with | some d => !S d | none => true
def regOK (pl : Nat → List (Nat × List Nat)) (S : Nat → Bool) : Code → Bool
  | .region id ops d => !d || (planOK ops (pl id) && keepOK S ops)
  | .seq a b => regOK pl S a && regOK pl S b
  | .cond _ a b => regOK pl S a && regOK pl S b
  | .block _ b => regOK pl S b
  | .loop b => regOK pl S b
  | _ => true

/-- what is left to the walk: functions known by another road, which slices turn, how many slots are variables, the orders, which functions are gone into, of which the memory that they made is forgotten, and which slots hold what they hold where a statement gives up in its middle -/
structure Pol where
  ext : FuncId → Option (List AV → AH → Option ((AV ⊕ AV) × AH))
  mu : FuncId → TypeId → Bool
  nv : FuncId → Nat
  plan : FuncId → Nat → List (Nat × List Nat)
  use : FuncId → Bool
  pure : FuncId → Bool
  kp : FuncId → Nat → Bool

mutual
/-- a value that speaks of no memory that may turn -/
def wkA : AV → Option AV
  | .isl _ z es => (wkR es).map (.isl none z)
  | .agg cs => (wkL cs).map .agg
  | .tup vs => (wkL vs).map .tup
  | .iface t v => (wkA v).map (.iface t)
  | .ip _ _ | .ptr _ _ _ | .tptr _ _ | .msl _ _ _ _ | .fn _ _ _ => none
  | .junk => some .junk
  | .bool b => some (.bool b)
  | .int k n => some (.int k n)
  | .str s => some (.str s)
  | .nilp => some .nilp
  | .nils => some .nils
  | .nilf => some .nilf
  | .nili => some .nili
def wkL : List AV → Option (List AV)
  | [] => some []
  | v :: l => match wkA v, wkL l with
    | some v, some l => some (v :: l)
    | _, _ => none
def wkR : List (List AV) → Option (List (List AV))
  | [] => some []
  | v :: l => match wkL v, wkR l with
    | some v, some l => some (v :: l)
    | _, _ => none
end

/-- only new memory -/
structure GrewA (h h' : AH) : Prop where
  n : h.n ≤ h'.n
  ids : h.ids ≤ h'.ids
  cell : ∀ b, b < h.n → h'.cell b = h.cell b
  hw : ∀ k, k < h.ids → h'.hw k = h.hw k
open Classical in
/-- the memory that a call made is forgotten -/
noncomputable def fgA (p : Bool) (h : AH) (q : (AV ⊕ AV) × AH) : Option ((AV ⊕ AV) × AH) :=
  if p = true then (if GrewA h q.2 then (match q.1 with
    | .inl v => (wkA v).map fun v => (.inl v, h)
    | .inr v => (wkA v).map fun v => (.inr v, h)) else none) else some q

/-- what was loaded ahead still lies there -/
def chkA (P : Program) (all : Array Oper) (t : List AV) (h : AH) : List Oper → Prop
  | [] => True
  | o :: r => (match wantedA all t o with
      | some true => (match o.op, o.dst with
        | .load ty a, some d => loadA (aggA P ty) (szA P ty) h (evA t a) = some (t.getD d .junk)
        | _, _ => False)
      | _ => True) ∧ chkA P all t h r
def planA (draw : Bool) (ops : Array Oper) (pl : List (Nat × List Nat)) : List (Oper × List Oper) :=
  if draw then pl.map fun q => (ops.getD q.1 default, q.2.map fun i => ops.getD i default) else ops.toList.map fun o => (o, [])

def clearA (n : Nat) (t : List AV) : List AV := t.take n ++ List.replicate (t.length - n) .junk

/-- what a call comes to -/
def outA (P : Program) (fn : Func) (r : AEx × List AV × AH) : Option ((AV ⊕ AV) × AH) := match r.1 with
  | .ret => (resA fn r.2.1 r.2.2 P).map fun v => (.inl v, r.2.2)
  | .panic v => some (.inr v, r.2.2)
  | .halt _ => none

open Classical in
noncomputable def runK (P : Program) (po : Pol) (f : FuncId) (k : List AItem) (t : List AV) (h : AH) : Option (AEx × List AV × AH) :=
  match k with
  | [] => some (.ret, t, h)
  | .inBlock _ :: k => runK P po f k t h
  | .halt K :: _ => some (.halt K, t, h)
  | .inLoop c :: k => runK P po f (.code c :: .inLoop c :: k) (clearA (po.nv f) t) h
  | .ops _ _ [] :: k => runK P po f k t h
  | .ops dr all ((o, ck) :: l) :: k =>
    match wantedA all t o with
    | none => none
    | some false => runK P po f (.ops dr all l :: k) (putA t o.dst (.tup [])) h
    | some true =>
     match panA t o with
     | some v => some (.panic v, t, h)
     | none =>
      match calleeA t o with
      | some (g, args) =>
        match po.ext g with
        | some F => F args h >>= fun r => match r.1 with
          | .inl v => if chkA P all (putA t o.dst v) r.2 ck then runK P po f (.ops dr all l :: k) (putA t o.dst v) r.2 else none
          | .inr v => some (.panic v, t, r.2)
        | none => match P.funcs[g]? with
          | none => none
          | some fn => match fn.body with
            | none => none
            | some c => if po.use g = false then none else (runK P po g [.code c] (args ++ List.replicate (fn.ntmps - args.length) .junk) h) >>= fun r => outA P fn r >>= fun q => fgA (po.pure g) h q >>= fun q => match q.1 with
              | .inl v => if chkA P all (putA t o.dst v) q.2 ck then runK P po f (.ops dr all l :: k) (putA t o.dst v) q.2 else none
              | .inr v => some (.panic v, t, q.2)
      | none => evalOp P (po.mu f) t h o >>= fun r => if chkA P all (putA t o.dst r.1) r.2 ck then runK P po f (.ops dr all l :: k) (putA t o.dst r.1) r.2 else none
  | .code c :: k =>
    match c with
    | .skip => runK P po f k t h
    | .label _ => runK P po f k t h
    | .seq a b => runK P po f (.code a :: .code b :: k) t h
    | .cond c x y => match evA t c with
      | .bool b => if b then runK P po f (.code x :: k) t h else runK P po f (.code y :: k) t h
      | _ => none
    | .block id b => runK P po f (.code b :: .inBlock id :: k) t h
    | .loop b => runK P po f (.code b :: .inLoop b :: k) (clearA (po.nv f) t) h
    | .exit id => exitA id k >>= fun k' => runK P po f k' t h
    | .ret => some (.ret, t, h)
    | .region id ops d => runK P po f (.ops d ops (planA d ops (po.plan f id)) :: k) t h
    | _ => none
partial_fixpoint

end Go.Proofs.YtngphebjmmencaaDoor
namespace Go.Proofs.YtngphebjmmencaaDoor
set_option linter.unusedSimpArgs false
set_option linter.unusedVariables false
open Go

abbrev ARun := Option (AEx × List AV × AH)
/-- a call of a function, by its body or by another road -/
noncomputable def runF (P : Program) (po : Pol) (g : FuncId) (args : List AV) (h : AH) : Option ((AV ⊕ AV) × AH) :=
  match po.ext g with
  | some F => F args h
  | none => match P.funcs[g]? with
    | none => none
    | some fn => match fn.body with
      | none => none
      | some c => if po.use g = false then none else (runK P po g [.code c] (args ++ List.replicate (fn.ntmps - args.length) .junk) h).bind fun r => (outA P fn r).bind fun q => fgA (po.pure g) h q

section
variable (P : Program) (po : Pol) (f : FuncId)
open Classical in
noncomputable def cChk (dr : Bool) (all : Array Oper) (l : List (Oper × List Oper)) (k : List AItem) (t : List AV) (h : AH) (ck : List Oper) : ARun := if chkA P all t h ck then runK P po f (.ops dr all l :: k) t h else none
noncomputable def cOp (dr : Bool) (all : Array Oper) (d : Option Tmp) (ck : List Oper) (l : List (Oper × List Oper)) (k : List AItem) (t : List AV) : Option (AV × AH) → ARun
  | some (v, h) => cChk P po f dr all l k (putA t d v) h ck
  | none => none
noncomputable def cCall (dr : Bool) (all : Array Oper) (d : Option Tmp) (ck : List Oper) (l : List (Oper × List Oper)) (k : List AItem) (t : List AV) : Option ((AV ⊕ AV) × AH) → ARun
  | some (.inl v, h) => cChk P po f dr all l k (putA t d v) h ck
  | some (.inr v, h) => some (.panic v, t, h)
  | none => none
noncomputable def cCallee (dr : Bool) (all : Array Oper) (o : Oper) (ck : List Oper) (l : List (Oper × List Oper)) (k : List AItem) (t : List AV) (h : AH) : Option (FuncId × List AV) → ARun
  | some (g, args) => cCall P po f dr all o.dst ck l k t (runF P po g args h)
  | none => cOp P po f dr all o.dst ck l k t (evalOp P (po.mu f) t h o)
noncomputable def cPan (dr : Bool) (all : Array Oper) (o : Oper) (ck : List Oper) (l : List (Oper × List Oper)) (k : List AItem) (t : List AV) (h : AH) : Option AV → ARun
  | some v => some (.panic v, t, h)
  | none => cCallee P po f dr all o ck l k t h (calleeA t o)
noncomputable def cWanted (dr : Bool) (all : Array Oper) (o : Oper) (ck : List Oper) (l : List (Oper × List Oper)) (k : List AItem) (t : List AV) (h : AH) : Option Bool → ARun
  | some true => cPan P po f dr all o ck l k t h (panA t o)
  | some false => runK P po f (.ops dr all l :: k) (putA t o.dst (.tup [])) h
  | none => none
noncomputable def cCond (x y : Code) (k : List AItem) (t : List AV) (h : AH) : AV → ARun
  | .bool b => if b then runK P po f (.code x :: k) t h else runK P po f (.code y :: k) t h
  | _ => none
noncomputable def cExit (t : List AV) (h : AH) : Option (List AItem) → ARun
  | some k => runK P po f k t h
  | none => none
/-- the end of a call -/
noncomputable def cF (p : Bool) (fn : Func) (h0 : AH) : ARun → Option ((AV ⊕ AV) × AH)
  | some (.ret, t, h) => cR p h0 h (resA fn t h P)
  | some (.panic v, _, h) => fgA p h0 (.inr v, h)
  | some (.halt _, _, _) => none
  | none => none
where cR (p : Bool) (h0 h : AH) : Option AV → Option ((AV ⊕ AV) × AH)
  | some v => fgA p h0 (.inl v, h)
  | none => none
end
section
variable {P : Program} {po : Pol} {f : FuncId} {k : List AItem} {t : List AV} {h : AH}
theorem runK_nil : runK P po f [] t h = some (.ret, t, h) := by rw [runK]
theorem runK_halt {K : List Item} : runK P po f (.halt K :: k) t h = some (.halt K, t, h) := by rw [runK]
theorem runK_inBlock {id : Nat} : runK P po f (.inBlock id :: k) t h = runK P po f k t h := by rw [runK]
theorem runK_inLoop {c : Code} : runK P po f (.inLoop c :: k) t h = runK P po f (.code c :: .inLoop c :: k) (clearA (po.nv f) t) h := by rw [runK]
theorem runK_ops_nil {dr : Bool} {all : Array Oper} : runK P po f (.ops dr all [] :: k) t h = runK P po f k t h := by rw [runK]
theorem runK_skip : runK P po f (.code .skip :: k) t h = runK P po f k t h := by rw [runK]
theorem runK_label {l : Nat} : runK P po f (.code (.label l) :: k) t h = runK P po f k t h := by rw [runK]
theorem runK_seq {a b : Code} : runK P po f (.code (.seq a b) :: k) t h = runK P po f (.code a :: .code b :: k) t h := by rw [runK]
theorem runK_block {id : Nat} {b : Code} : runK P po f (.code (.block id b) :: k) t h = runK P po f (.code b :: .inBlock id :: k) t h := by rw [runK]
theorem runK_loop {b : Code} : runK P po f (.code (.loop b) :: k) t h = runK P po f (.inLoop b :: k) t h := by
  conv => lhs; rw [runK]
  conv => rhs; rw [runK]
theorem runK_ret : runK P po f (.code .ret :: k) t h = some (.ret, t, h) := by rw [runK]
theorem runK_region {id : Nat} {ops : Array Oper} {d : Bool} : runK P po f (.code (.region id ops d) :: k) t h = runK P po f (.ops d ops (planA d ops (po.plan f id)) :: k) t h := by rw [runK]
theorem runK_exit {id : Nat} : runK P po f (.code (.exit id) :: k) t h = cExit P po f t h (exitA id k) := by
  rw [runK]
  cases exitA id k <;> rfl
theorem runK_cond {c : Operand} {x y : Code} : runK P po f (.code (.cond c x y) :: k) t h = cCond P po f x y k t h (evA t c) := by
  rw [runK]
  cases evA t c <;> rfl
theorem runK_cons {dr : Bool} {all : Array Oper} {o : Oper} {ck : List Oper} {l : List (Oper × List Oper)} : runK P po f (.ops dr all ((o, ck) :: l) :: k) t h = cWanted P po f dr all o ck l k t h (wantedA all t o) := by
  rw [runK]
  rcases wantedA all t o with _ | ⟨_ | _⟩
  · rfl
  · rfl
  · simp only [cWanted]
    rcases hp : panA t o with _ | v
    case some => rfl
    simp only [cPan]
    rcases hc : calleeA t o with _ | ⟨g, args⟩
    · simp only [cCallee]
      rcases evalOp P (po.mu f) t h o with _ | ⟨v, h'⟩ <;> rfl
    · simp only [cCallee, runF]
      cases hx : po.ext g with
      | some F =>
        simp only
        rcases F args h with _ | ⟨_ | _, h'⟩ <;> rfl
      | none =>
        simp only
        cases hf : P.funcs[g]? with
        | none => rfl
        | some fn =>
          simp only
          cases hb : fn.body with
          | none => rfl
          | some c =>
            by_cases hu : po.use g = false
            · simp only [hu, if_true]
              rfl
            · simp only [hu, if_false, Bool.false_eq_true]
              generalize runK P po g [.code c] (args ++ List.replicate (fn.ntmps - args.length) .junk) h = r
              rcases r with _ | r
              · rfl
              · simp only [Option.bind_some, Option.bind_eq_bind]
                rcases outA P fn r with _ | q
                · rfl
                · simp only [Option.bind_some]
                  rcases fgA (po.pure g) h q with _ | ⟨_ | _, h'⟩ <;> rfl
theorem cW_true {dr : Bool} {all : Array Oper} {o : Oper} {ck : List Oper} {l : List (Oper × List Oper)} : cWanted P po f dr all o ck l k t h (some true) = cPan P po f dr all o ck l k t h (panA t o) := rfl
theorem cP_none {dr : Bool} {all : Array Oper} {o : Oper} {ck : List Oper} {l : List (Oper × List Oper)} : cPan P po f dr all o ck l k t h none = cCallee P po f dr all o ck l k t h (calleeA t o) := rfl
theorem cP_some {dr : Bool} {all : Array Oper} {o : Oper} {ck : List Oper} {l : List (Oper × List Oper)} {v : AV} : cPan P po f dr all o ck l k t h (some v) = some (.panic v, t, h) := rfl
theorem cW_false {dr : Bool} {all : Array Oper} {o : Oper} {ck : List Oper} {l : List (Oper × List Oper)} : cWanted P po f dr all o ck l k t h (some false) = runK P po f (.ops dr all l :: k) (putA t o.dst (.tup [])) h := rfl
theorem cC_some {dr : Bool} {all : Array Oper} {o : Oper} {ck : List Oper} {l : List (Oper × List Oper)} {g : FuncId} {args : List AV} : cCallee P po f dr all o ck l k t h (some (g, args)) = cCall P po f dr all o.dst ck l k t (runF P po g args h) := rfl
theorem cC_none {dr : Bool} {all : Array Oper} {o : Oper} {ck : List Oper} {l : List (Oper × List Oper)} : cCallee P po f dr all o ck l k t h none = cOp P po f dr all o.dst ck l k t (evalOp P (po.mu f) t h o) := rfl
theorem cO_some {dr : Bool} {all : Array Oper} {d : Option Tmp} {ck : List Oper} {l : List (Oper × List Oper)} {v : AV} : cOp P po f dr all d ck l k t (some (v, h)) = cChk P po f dr all l k (putA t d v) h ck := rfl
theorem cCl_ret {dr : Bool} {all : Array Oper} {d : Option Tmp} {ck : List Oper} {l : List (Oper × List Oper)} {v : AV} : cCall P po f dr all d ck l k t (some (.inl v, h)) = cChk P po f dr all l k (putA t d v) h ck := rfl
theorem cCl_panic {dr : Bool} {all : Array Oper} {d : Option Tmp} {ck : List Oper} {l : List (Oper × List Oper)} {v : AV} : cCall P po f dr all d ck l k t (some (.inr v, h)) = some (.panic v, t, h) := rfl
theorem cCd_true {x y : Code} : cCond P po f x y k t h (.bool true) = runK P po f (.code x :: k) t h := rfl
theorem cCd_false {x y : Code} : cCond P po f x y k t h (.bool false) = runK P po f (.code y :: k) t h := rfl
theorem cK_nil {dr : Bool} {all : Array Oper} {l : List (Oper × List Oper)} : cChk P po f dr all l k t h [] = runK P po f (.ops dr all l :: k) t h := by simp [cChk, chkA]
theorem cK_yes {dr : Bool} {all : Array Oper} {l : List (Oper × List Oper)} {ck : List Oper} (hc : chkA P all t h ck) : cChk P po f dr all l k t h ck = runK P po f (.ops dr all l :: k) t h := by simp [cChk, hc]
theorem cE_some {k : List AItem} : cExit P po f t h (some k) = runK P po f k t h := rfl
theorem cF_ret {fn : Func} {p : Bool} {h0 : AH} : cF P p fn h0 (some (.ret, t, h)) = cF.cR p h0 h (resA fn t h P) := rfl
theorem cF_panic {fn : Func} {p : Bool} {h0 : AH} {v : AV} : cF P p fn h0 (some (.panic v, t, h)) = fgA p h0 (.inr v, h) := rfl
theorem cR_some {p : Bool} {h0 : AH} {v : AV} : cF.cR p h0 h (some v) = fgA p h0 (.inl v, h) := rfl
theorem fg_not {h0 : AH} {q : (AV ⊕ AV) × AH} : fgA false h0 q = some q := by simp [fgA]
theorem fg_yes {h0 : AH} {v v' : AV} (hg : GrewA h0 h) (hv : wkA v = some v') : fgA true h0 (.inl v, h) = some (.inl v', h0) := by simp [fgA, hg, hv]
theorem fg_yesP {h0 : AH} {v v' : AV} (hg : GrewA h0 h) (hv : wkA v = some v') : fgA true h0 (.inr v, h) = some (.inr v', h0) := by simp [fgA, hg, hv]
theorem runF_body {g : FuncId} {fn : Func} {c : Code} {args : List AV} {p : Bool} (hx : po.ext g = none) (hf : P.funcs[g]? = some fn) (hb : fn.body = some c) (hu : po.use g = true) (hp : po.pure g = p) :
    runF P po g args h = cF P p fn h (runK P po g [.code c] (args ++ List.replicate (fn.ntmps - args.length) .junk) h) := by
  unfold runF
  simp only [hx, hf, hb, hu, hp]
  generalize runK P po g [.code c] (args ++ List.replicate (fn.ntmps - args.length) .junk) h = r
  rcases r with _ | ⟨_ | _ | _, t', h'⟩
  · rfl
  · simp only [Bool.true_eq_false, if_false, Option.bind_some, outA, cF]
    rcases resA fn t' h' P with _ | v <;> rfl
  · rfl
  · rfl
end
end Go.Proofs.YtngphebjmmencaaDoor
namespace Go.Proofs.YtngphebjmmencaaDoor
set_option linter.unusedSimpArgs false
set_option linter.unusedVariables false
open Go.RowKit

/-- Between w and w' only blocks in F, and new ones, may have turned. -/
structure Only (F : Nat → Prop) (w w' : World) : Prop where
  os : w'.os = w.os
  tape : w'.tape = w.tape
  output : w'.output = w.output
  size : w.heap.size ≤ w'.heap.size
  block : ∀ k, k < w.heap.size → ¬ F k → w'.heap[k]? = w.heap[k]?

theorem Only.refl (F : Nat → Prop) (w : World) : Only F w w := ⟨rfl, rfl, rfl, Nat.le_refl _, fun _ _ _ => rfl⟩
theorem Only.trans {F : Nat → Prop} {a b c : World} (h : Only F a b) (k : Only F b c) : Only F a c :=
  ⟨k.os.trans h.os, k.tape.trans h.tape, k.output.trans h.output, Nat.le_trans h.size k.size, fun i hi hn => (k.block i (Nat.lt_of_lt_of_le hi h.size) hn).trans (h.block i hi hn)⟩
theorem Only.mono {F G : Nat → Prop} {w w' : World} (h : Only F w w') (hFG : ∀ k, k < w.heap.size → F k → G k) : Only G w w' :=
  ⟨h.os, h.tape, h.output, h.size, fun k hk hn => h.block k hk fun hf => hn (hFG k hk hf)⟩
theorem Only.step {F G : Nat → Prop} {a b c : World} (h : Only F a b) (k : Only G b c) (hG : ∀ i, i < a.heap.size → G i → F i) : Only F a c :=
  ⟨k.os.trans h.os, k.tape.trans h.tape, k.output.trans h.output, Nat.le_trans h.size k.size, fun i hi hn => (k.block i (Nat.lt_of_lt_of_le hi h.size) (fun hg => hn (hG i hi hg))).trans (h.block i hi hn)⟩
theorem Only.drew {F : Nat → Prop} {a w : World} (h : Only F a w) : Only F a w.drew := ⟨h.os, h.tape, h.output, h.size, h.block⟩
theorem Only.drewN {F : Nat → Prop} {a w : World} (h : Only F a w) (n : Nat) : Only F a (w.drewN n) := ⟨h.os, h.tape, h.output, h.size, h.block⟩
theorem Only.alloc {F : Nat → Prop} {a w : World} (h : Only F a w) (o : Obj) : Only F a (w.alloc o) :=
  ⟨h.os, h.tape, h.output, Nat.le_trans h.size (by simp), fun k hk hn => (Below.heap_alloc w o k (Nat.lt_of_lt_of_le hk h.size)).trans (h.block k hk hn)⟩
theorem Only.setCell {F : Nat → Prop} {a w : World} (h : Only F a w) {p : Addr} (hp : F p.block ∨ a.heap.size ≤ p.block) (u : Value) : Only F a (w.setCell p u) :=
  ⟨h.os, h.tape, h.output, by simpa [World.setCell] using h.size, fun k hk hn => (Below.heap_setCell w p u k (by
    rintro rfl
    rcases hp with hp | hp
    · exact hn hp
    · omega)).trans (h.block k hk hn)⟩
theorem Only.grown {F : Nat → Prop} {a w w' : World} {row : Option Nat} (h : Only F a w) (hg : w.grownBy w' row) (hr : ∀ k, row = some k → F k ∨ a.heap.size ≤ k) : Only F a w' :=
  ⟨hg.os.trans h.os, hg.tape.trans h.tape, hg.output.trans h.output, Nat.le_trans h.size hg.size, fun k hk hn => (hg.block k (Nat.lt_of_lt_of_le hk h.size) (fun e => by
    rcases hr k e.symm with hf | hf
    · exact hn hf
    · omega)).trans (h.block k hk hn)⟩
end Go.Proofs.YtngphebjmmencaaDoor
namespace Go.RowKit
open Go.Proofs.YtngphebjmmencaaDoor
theorem Below.drewN_ {B : Nat} {a w : World} (h : Below B a w) (n : Nat) : Below B a (w.drewN n) := ⟨h.os, h.tape, h.output, h.size, h.block⟩
end Go.RowKit
namespace Go.Proofs.YtngphebjmmencaaDoor
set_option linter.unusedSimpArgs false
set_option linter.unusedVariables false
open Go.RowKit
/-- Nothing that was there has turned. -/
abbrev New (w w' : World) : Prop := Only (fun _ => False) w w'
theorem New.only {F : Nat → Prop} {w w' : World} (h : New w w') : Only F w w' := h.mono fun _ _ hf => hf.elim
theorem New.below {w w' : World} (h : New w w') : Below w.heap.size w w' := ⟨h.os, h.tape, h.output, h.size, fun k hk => h.block k hk id⟩
theorem New.of_below {w w' : World} (h : Below w.heap.size w w') : New w w' := ⟨h.os, h.tape, h.output, h.size, fun k hk _ => h.block k hk⟩
theorem Only.below {F : Nat → Prop} {B : Nat} {w w' : World} (h : Only F w w') (hF : ∀ k, F k → B ≤ k) (hB : B ≤ w.heap.size) : Below B w w' :=
  ⟨h.os, h.tape, h.output, h.size, fun k hk => h.block k (by omega) (fun hf => by have := hF k hf; omega)⟩
end Go.Proofs.YtngphebjmmencaaDoor
namespace Go.RowKit
open Go.Proofs.YtngphebjmmencaaDoor
theorem Below.new {a w w' : World} (h : Below a.heap.size a w) (k : New w w') : Below a.heap.size a w' := h.trans (Only.below k (fun _ h => h.elim) h.size)
end Go.RowKit
namespace Go.Proofs.YtngphebjmmencaaDoor
set_option linter.unusedSimpArgs false
set_option linter.unusedVariables false
open Go.RowKit
end Go.Proofs.YtngphebjmmencaaDoor
namespace Go.RowKit
open Go.Proofs.YtngphebjmmencaaDoor
theorem Below.only {F : Nat → Prop} {a w w' : World} (h : Below a.heap.size a w) (k : Only F w w') (hF : ∀ i, F i → a.heap.size ≤ i) : Below a.heap.size a w' := h.trans (Only.below k hF h.size)
end Go.RowKit
namespace Go.Proofs.YtngphebjmmencaaDoor
set_option linter.unusedSimpArgs false
set_option linter.unusedVariables false
open Go.RowKit
theorem Only.cell {F : Nat → Prop} {w w' : World} (h : Only F w w') {p : Addr} (hp : p.block < w.heap.size) (hn : ¬ F p.block) : w'.cell? p = w.cell? p := World.cell?_of_block (w := w) (h.block p.block hp hn)

/-- Block g is just the cells cs of element type t, none frozen. -/
def Blk (w : World) (g : Nat) (t : TypeId) (cs : Array Value) : Prop := w.heap[g]? = some (.cells cs t (0, 0))

section
variable {w w' : World} {g : Nat} {t : TypeId} {cs : Array Value}
theorem Blk.lt (h : Blk w g t cs) : g < w.heap.size := by
  rcases Nat.lt_or_ge g w.heap.size with hlt | hge
  · exact hlt
  · unfold Blk at h; rw [Array.getElem?_eq_none hge] at h; cases h
theorem Blk.cell (h : Blk w g t cs) (i : Nat) : w.cell? ⟨g, i, none⟩ = cs[i]? := cell_of_row w g i cs t (0, 0) h
theorem Blk.frozen (h : Blk w g t cs) (i : Nat) : w.frozen? ⟨g, i, none⟩ = false := by
  unfold Blk at h
  simp [World.frozen?, h]
theorem Blk.new (w : World) (t : TypeId) (cs : Array Value) : Blk (w.alloc (.cells cs t)) w.heap.size t cs := heap_alloc_new w _
theorem Blk.drew (h : Blk w g t cs) : Blk w.drew g t cs := h
theorem Blk.drewN (h : Blk w g t cs) (n : Nat) : Blk (w.drewN n) g t cs := h
theorem Blk.alloc (h : Blk w g t cs) (o : Obj) : Blk (w.alloc o) g t cs := (Below.heap_alloc w o g h.lt).trans h
theorem Blk.set_ (h : Blk w g t cs) (i : Nat) (u : Value) : Blk (w.setCell ⟨g, i, none⟩ u) g t (cs.setIfInBounds i u) := by
  unfold Blk at h ⊢
  simp [World.setCell, Array.getElem?_modify, h]
theorem Blk.far (h : Blk w g t cs) {p : Addr} (hp : g ≠ p.block) (u : Value) : Blk (w.setCell p u) g t cs := (Below.heap_setCell w p u g hp).trans h
theorem Blk.below {B : Nat} (h : Blk w g t cs) (hb : Below B w w') (hg : g < B) : Blk w' g t cs := (hb.block g hg).trans h
theorem Blk.only {F : Nat → Prop} (h : Blk w g t cs) (hb : Only F w w') (hg : ¬ F g) : Blk w' g t cs := (hb.block g h.lt hg).trans h
theorem Blk.grown {row : Option Nat} (h : Blk w g t cs) (hb : w.grownBy w' row) (hg : some g ≠ row) : Blk w' g t cs := (hb.block g h.lt hg).trans h
theorem Blk.ne_ {g' : Nat} {t' : TypeId} {cs' : Array Value} (h : Blk w g t cs) (h' : Blk w g' t' cs') (hne : t ≠ t') : g ≠ g' := by
  rintro rfl
  unfold Blk at h h'
  rw [h] at h'
  injection h' with h'
  injection h' with _ ht
  exact hne ht
theorem own_blk_ne {base : Nat} {e : TypeId} {size n : Nat} {v : Value} {xs : List Value} (h : w.ownsRow base e size v n xs) (hg : Blk w g t cs) (hne : e ≠ t) : v.ownBlock ≠ some g := by
  rcases h.2 with ⟨rfl, _⟩ | ⟨g', cap, cur, rfl, _, hh, _⟩
  · simp [Value.ownBlock]
  · intro he
    have : g' = g := by simpa [Value.ownBlock] using he
    subst this
    exact Blk.ne_ (t := e) hh hg hne rfl
end
/-- what 'append(s, x)' leaves, s owned by the call: the elements and the new one are owned, in the old row or a new one -/
theorem run_append1 {P : Program} (base : Nat) (t ty e : TypeId) (i : TypeInfo) (z : Value) (size bytes : Nat) (ht : P.underlying t = some (.slice e)) (hi : P.info? e = some i) (hz : i.zero = some z)
    (hsize : i.size = size) (hby : i.bytes = bytes) (hzs : z.cells.size = size) (hsz : 0 < size)
    (v : Value) (n : Nat) (xs : List Value) (w : World) (hown : w.ownsRow base e size v n xs) (news : List Value) (hl : news.length = size) (h1 : ∀ u ∈ news, u.oneCell' = true)
    (hn : n ≤ 1000000) (hb : bytes ≤ 100000) (hbase : base ≤ w.heap.size) :
    ∃ g cap w', (Builtin.append_ #[t, t] ty #[v, .slice (some ⟨w.heap.size, 0, none⟩) 1 1]).run P (w.alloc (.cells news.toArray e)) = .ok (.slice (some ⟨g, 0, none⟩) (n + 1) cap) w' ∧
      w'.ownsRow base e size (.slice (some ⟨g, 0, none⟩) (n + 1) cap) (n + 1) (xs ++ news) ∧ Only (fun k => some k = v.ownBlock) w w' ∧ (some g = v.ownBlock ∨ w.heap.size ≤ g) := by
  have hcells : ∀ j u, news[j]? = some u → (w.alloc (.cells news.toArray e)).cell? ((⟨w.heap.size, 0, none⟩ : Addr).add j) = some u := by
    intro j u hu
    rw [Addr.add_lit, cell_of_row _ _ _ _ _ _ (heap_alloc_new w _)]
    simpa using hu
  obtain ⟨v', w', hrun, h2, h3, h4, h5⟩ := run_append_own_at (P := P) (w.alloc (.cells news.toArray e)) base t ty e i z size bytes ht hi hz hsize hby hzs hsz v n xs (hown.alloc _) ⟨w.heap.size, 0, none⟩ 1 1 news (by omega) hcells h1
    (by unfold maxLen; omega) (by have : (n + 1) * bytes ≤ 1000001 * 100000 := Nat.mul_le_mul (by omega) hb; omega) (by simp; omega)
  rcases h2.2 with ⟨_, h⟩ | ⟨g, cap, cur, rfl, hg, _⟩
  · omega
  · refine ⟨g, cap, w', hrun, h2, ⟨h3.os, h3.tape, h3.output, Nat.le_trans (by simp) h3.size, fun k hk hn' => (h3.block k (by simp; omega) hn').trans (Below.heap_alloc w _ k hk)⟩, ?_⟩
    rcases h5 with h5 | h5
    · exact .inl (by simpa [Value.ownBlock] using h5)
    · exact .inr (by simp [Value.ownBlock] at h5; omega)

theorem wpList_append1 {P : Program} {ops : Array Oper} {rest : List Oper} {o : Oper} {a : Act} {Q : Exit → Act → World → Prop} (hgd : o.guard = none) (s x : Operand) (t : TypeId)
    (ho : o.op = .call { callee := .builtin .append, args := #[s, x], argTypes := #[t, t] })
    (base : Nat) (e : TypeId) (i : TypeInfo) (z : Value) (size bytes : Nat) (ht : P.underlying t = some (.slice e)) (hi : P.info? e = some i) (hz : i.zero = some z)
    (hsize : i.size = size) (hby : i.bytes = bytes) (hzs : z.cells.size = size) (hsz : 0 < size)
    (v : Value) (n : Nat) (xs : List Value) (w : World) (hs : a.eval s = v) (hown : w.ownsRow base e size v n xs) (news : List Value) (gz : Nat) (hgz : gz = w.heap.size) (hx : a.eval x = .slice (some ⟨gz, 0, none⟩) 1 1) (hl : news.length = size) (h1 : ∀ u ∈ news, u.oneCell' = true)
    (hn : n ≤ 1000000) (hb : bytes ≤ 100000) (hbase : base ≤ w.heap.size)
    (h : ∀ g cap w', w'.ownsRow base e size (.slice (some ⟨g, 0, none⟩) (n + 1) cap) (n + 1) (xs ++ news) → Only (fun k => some k = v.ownBlock) w w' → (some g = v.ownBlock ∨ w.heap.size ≤ g) →
      wpList P ops Q rest (a.put o.dst (.slice (some ⟨g, 0, none⟩) (n + 1) cap)) w') : wpList P ops Q (o :: rest) a (w.alloc (.cells news.toArray e)) := by
  subst hgz
  refine wpList_plain hgd fun _ hK => ?_
  obtain ⟨g, cap, w', hrun, h2, h3, h4⟩ := run_append1 (P := P) base t o.type e i z size bytes ht hi hz hsize hby hzs hsz v n xs w hown news hl h1 hn hb hbase
  unfold Oper.wp execOp
  simp only [ho, resolve, invoke, builtin, Sem.run_bind, Sem.run_pure, Result.andThen_ok, List.map_toArray, List.map_cons, List.map_nil, hs, hx, hrun]
  exact hK _ _ (h g cap w' h2 h3 h4)

theorem step_append1 {P : Program} {ops : Array Oper} {o : Oper} {a : Act} {K : Act → World → Prop} {Q : Exit → Act → World → Prop} {E : Prop} (hgd : o.guard = none) (s x : Operand) (t : TypeId)
    (ho : o.op = .call { callee := .builtin .append, args := #[s, x], argTypes := #[t, t] })
    (base : Nat) (e : TypeId) (i : TypeInfo) (z : Value) (size bytes : Nat) (ht : P.underlying t = some (.slice e)) (hi : P.info? e = some i) (hz : i.zero = some z)
    (hsize : i.size = size) (hby : i.bytes = bytes) (hzs : z.cells.size = size) (hsz : 0 < size)
    (v : Value) (n : Nat) (xs : List Value) (w : World) (hs : a.eval s = v) (hown : w.ownsRow base e size v n xs) (news : List Value) (gz : Nat) (hgz : gz = w.heap.size) (hx : a.eval x = .slice (some ⟨gz, 0, none⟩) 1 1) (hl : news.length = size) (h1 : ∀ u ∈ news, u.oneCell' = true)
    (hn : n ≤ 1000000) (hb : bytes ≤ 100000) (hbase : base ≤ w.heap.size)
    (h : ∀ g cap w', w'.ownsRow base e size (.slice (some ⟨g, 0, none⟩) (n + 1) cap) (n + 1) (xs ++ news) → Only (fun k => some k = v.ownBlock) w w' → (some g = v.ownBlock ∨ w.heap.size ≤ g) →
      K (a.put o.dst (.slice (some ⟨g, 0, none⟩) (n + 1) cap)) w') : if Region.wanted o (yielded ops a.tmps) = true then Oper.wp P o a (w.alloc (.cells news.toArray e)) K Q else E := by
  have hw : Region.wanted o (yielded ops a.tmps) = true := by simp [Region.wanted, hgd]
  rw [if_pos hw]
  subst hgz
  obtain ⟨g, cap, w', hrun, h2, h3, h4⟩ := run_append1 (P := P) base t o.type e i z size bytes ht hi hz hsize hby hzs hsz v n xs w hown news hl h1 hn hb hbase
  unfold Oper.wp execOp
  simp only [ho, resolve, invoke, builtin, Sem.run_bind, Sem.run_pure, Result.andThen_ok, List.map_toArray, List.map_cons, List.map_nil, hs, hx, hrun]
  exact h g cap w' h2 h3 h4

/-- a slice value that reads as n elements, the cells xs; of an empty one nothing is asked -/
def Sl (w : World) (size : Nat) (A : Option Addr) (n cap : Nat) (xs : List Value) : Prop :=
  xs.length = n * size ∧ n ≤ cap ∧ (A = none → cap = 0) ∧ ∀ a, A = some a → (0 < n → a.spot = none) ∧ ∀ j u, xs[j]? = some u → w.cell? ⟨a.block, a.off + j, none⟩ = some u

section
variable {w w' : World} {size n cap : Nat} {A : Option Addr} {xs : List Value}
theorem Sl.none_ (w : World) (size : Nat) : Sl w size none 0 0 [] := ⟨by simp, Nat.le_refl _, fun _ => rfl, (fun a h => by cases h)⟩
theorem Sl.some_ (h : Sl w size A n cap xs) (hn : 0 < n) : ∃ b o, A = some ⟨b, o, none⟩ := by
  obtain ⟨_, hc, h0, h1⟩ := h
  rcases A with _ | a
  · have := h0 rfl; omega
  · obtain ⟨b, o, s⟩ := a
    have := (h1 _ rfl).1 hn
    simp at this
    subst this
    exact ⟨b, o, rfl⟩
theorem Sl.cell {b o : Nat} (h : Sl w size (some ⟨b, o, none⟩) n cap xs) {j : Nat} {u : Value} (hj : xs[j]? = some u) : w.cell? ⟨b, o + j, none⟩ = some u := (h.2.2.2 _ rfl).2 j u hj
theorem Sl.at0 {b o : Nat} (h : Sl w size (some ⟨b, o, none⟩) n cap xs) {p : Nat} {u : Value} (hj : xs[p]? = some u) : w.cell? ⟨b, o + p, none⟩ = some u := (h.2.2.2 _ rfl).2 p u hj
theorem Sl.at_ {b o : Nat} (h : Sl w size (some ⟨b, o, none⟩) n cap xs) {p j : Nat} {u : Value} (hj : xs[p + j]? = some u) : w.cell? ⟨b, o + p + j, none⟩ = some u := by rw [Nat.add_assoc]; exact (h.2.2.2 _ rfl).2 (p + j) u hj
theorem Sl.of_own {base : Nat} {e : TypeId} (h : w.ownsRow base e size (.slice A n cap) n xs) : Sl w size A n cap xs := by
  refine ⟨h.1, ?_⟩
  rcases h.2 with ⟨hv, h0⟩ | ⟨g, cap', cur, hv, _, hh, hnc, _, hcs, htake⟩
  · simp at hv
    obtain ⟨rfl, rfl, rfl⟩ := hv
    exact ⟨Nat.le_refl _, fun _ => rfl, (fun a h => by cases h)⟩
  · simp at hv
    obtain ⟨rfl, rfl⟩ := hv
    refine ⟨hnc, (fun h => by cases h), fun a ha => ?_⟩
    obtain rfl := Option.some.inj ha
    refine ⟨fun _ => rfl, fun j u hu => ?_⟩
    have := h.cells (g := g) rfl j u hu
    rwa [Addr.add_lit] at this
theorem Sl.keep (h : Sl w size A n cap xs) (hk : ∀ p : Addr, A.map (·.block) = some p.block → w.cell? p ≠ none → w'.cell? p = w.cell? p) : Sl w' size A n cap xs := by
  refine ⟨h.1, h.2.1, h.2.2.1, fun a ha => ⟨(h.2.2.2 a ha).1, fun j u hu => ?_⟩⟩
  have hc := (h.2.2.2 a ha).2 j u hu
  rw [hk _ (by simp [ha]) (by rw [hc]; simp)]
  exact hc
theorem lt_of_cell {p : Addr} (h : w.cell? p ≠ none) : p.block < w.heap.size := by
  rcases hc : w.cell? p with _ | u
  · exact absurd hc h
  · exact World.block_lt_of_cell? w p hc
theorem Sl.only {F : Nat → Prop} (h : Sl w size A n cap xs) (ho : Only F w w') (hF : ∀ k, A.map (·.block) = some k → ¬ F k) : Sl w' size A n cap xs :=
  h.keep fun p hp hc => World.cell?_of_block (ho.block _ (lt_of_cell hc) (hF _ hp))
theorem Sl.new (h : Sl w size A n cap xs) (ho : New w w') : Sl w' size A n cap xs := h.only ho (fun _ _ => id)
theorem Sl.below {B : Nat} (h : Sl w size A n cap xs) (ho : Below B w w') (hF : ∀ k, A.map (·.block) = some k → k < B) : Sl w' size A n cap xs :=
  h.keep fun p hp hc => World.cell?_of_block (ho.block _ (hF _ hp))
theorem Sl.below_ (h : Sl w size A n cap xs) (ho : Below w.heap.size w w') : Sl w' size A n cap xs :=
  h.keep fun p _ hc => World.cell?_of_block (ho.block _ (lt_of_cell hc))
theorem Sl.of_blk {g : Nat} {t : TypeId} {cs : Array Value} {o : Nat} (h : Blk w g t cs) (hn : n ≤ cap) (hx : xs.length = n * size) (hc : ∀ j u, xs[j]? = some u → cs[o + j]? = some u) : Sl w size (some ⟨g, o, none⟩) n cap xs :=
  by
  refine ⟨hx, hn, (fun h => by cases h), fun a ha => ?_⟩
  obtain rfl := Option.some.inj ha
  exact ⟨fun _ => rfl, fun j u hu => (h.cell (o + j)).trans (hc j u hu)⟩
end

theorem Sl.of_list {w : World} {size n cap g : Nat} {t : TypeId} {xs : List Value} (h : Blk w g t xs.toArray) (hn : n ≤ cap) (hx : xs.length = n * size) : Sl w size (some ⟨g, 0, none⟩) n cap xs :=
  Sl.of_blk h hn hx (fun j u hu => by rw [Nat.zero_add, List.getElem?_toArray]; exact hu)

/-- 'append(s, x...)', s owned by the call, x any slice that reads -/
theorem run_appends {P : Program} (base : Nat) (t ty e : TypeId) (i : TypeInfo) (z : Value) (size bytes : Nat) (ht : P.underlying t = some (.slice e)) (hi : P.info? e = some i) (hz : i.zero = some z)
    (hsize : i.size = size) (hby : i.bytes = bytes) (hzs : z.cells.size = size) (hsz : 0 < size)
    (v : Value) (n : Nat) (xs : List Value) (w : World) (hown : w.ownsRow base e size v n xs) (A : Option Addr) (m c : Nat) (ys : List Value) (hr : Sl w size A m c ys) (h1 : ∀ u ∈ ys, u.oneCell' = true)
    (h63 : n + m ≤ maxLen) (hbytes : (n + m) * bytes ≤ 140737488355328) (hbase : base ≤ w.heap.size) :
    ∃ v' w', (Builtin.append_ #[t, t] ty #[v, .slice A m c]).run P w = .ok v' w' ∧ w'.ownsRow base e size v' (n + m) (xs ++ ys) ∧ Only (fun k => some k = v.ownBlock) w w' ∧
      (v'.ownBlock = v.ownBlock ∨ v'.ownBlock = some w.heap.size) ∧ (0 < n + m → ∃ g cap, v' = .slice (some ⟨g, 0, none⟩) (n + m) cap) := by
  rcases A with _ | ad
  · have hc0 := hr.2.2.1 rfl
    have hmc := hr.2.1
    obtain rfl : m = 0 := by omega
    subst hc0
    have hn : ys = [] := List.eq_nil_of_length_eq_zero (by simpa using hr.1)
    subst hn
    refine ⟨v, w, run_append_owned_none (P := P) w base t ty e i size ht hi v n xs hown, by simpa using hown, Only.refl _ _, .inl rfl, fun h0 => ?_⟩
    rcases hown.2 with ⟨rfl, h⟩ | ⟨g, cap, cur, rfl, _⟩
    · omega
    · exact ⟨g, cap, rfl⟩
  · have hcells : ∀ j u, ys[j]? = some u → w.cell? (ad.add j) = some u := by
      intro j u hu
      obtain ⟨hs, hcell⟩ := hr.2.2.2 ad rfl
      have := hcell j u hu
      obtain ⟨b, o, sp⟩ := ad
      have hm : 0 < m := by
        rcases Nat.eq_zero_or_pos m with h0 | h0
        · subst h0
          have hn : ys = [] := List.eq_nil_of_length_eq_zero (by simpa using hr.1)
          subst hn
          simp at hu
        · exact h0
      have hs := hs hm
      simp at hs
      subst hs
      rw [Addr.add_lit]
      exact this
    obtain ⟨v', w', hrun, h2, h3, h4, h5⟩ := run_append_own_at (P := P) w base t ty e i z size bytes ht hi hz hsize hby hzs hsz v n xs hown ad m c ys hr.1 hcells h1 h63 hbytes hbase
    refine ⟨v', w', hrun, h2, ⟨h3.os, h3.tape, h3.output, h3.size, h3.block⟩, h5, fun h0 => ?_⟩
    rcases h2.2 with ⟨_, h⟩ | ⟨g, cap, cur, rfl, _⟩
    · omega
    · exact ⟨g, cap, rfl⟩

theorem wpList_appends {P : Program} {ops : Array Oper} {rest : List Oper} {o : Oper} {a : Act} {Q : Exit → Act → World → Prop} (hgd : o.guard = none) (s x : Operand) (t : TypeId)
    (ho : o.op = .call { callee := .builtin .append, args := #[s, x], argTypes := #[t, t] })
    (base : Nat) (e : TypeId) (i : TypeInfo) (z : Value) (size bytes : Nat) (ht : P.underlying t = some (.slice e)) (hi : P.info? e = some i) (hz : i.zero = some z)
    (hsize : i.size = size) (hby : i.bytes = bytes) (hzs : z.cells.size = size) (hsz : 0 < size)
    (v : Value) (n : Nat) (xs : List Value) (w : World) (hs : a.eval s = v) (hown : w.ownsRow base e size v n xs) (A : Option Addr) (m c : Nat) (ys : List Value) (hx : a.eval x = .slice A m c) (hr : Sl w size A m c ys) (h1 : ∀ u ∈ ys, u.oneCell' = true)
    (h63 : n + m ≤ maxLen) (hbytes : (n + m) * bytes ≤ 140737488355328) (hbase : base ≤ w.heap.size)
    (h : ∀ v' w', w'.ownsRow base e size v' (n + m) (xs ++ ys) → Only (fun k => some k = v.ownBlock) w w' → (v'.ownBlock = v.ownBlock ∨ v'.ownBlock = some w.heap.size) → (0 < n + m → ∃ g cap, v' = .slice (some ⟨g, 0, none⟩) (n + m) cap) →
      wpList P ops Q rest (a.put o.dst v') w') : wpList P ops Q (o :: rest) a w := by
  refine wpList_plain hgd fun _ hK => ?_
  obtain ⟨v', w', hrun, h2, h3, h4, h5⟩ := run_appends (P := P) base t o.type e i z size bytes ht hi hz hsize hby hzs hsz v n xs w hown A m c ys hr h1 h63 hbytes hbase
  unfold Oper.wp execOp
  simp only [ho, resolve, invoke, builtin, Sem.run_bind, Sem.run_pure, Result.andThen_ok, List.map_toArray, List.map_cons, List.map_nil, hs, hx, hrun]
  exact hK _ _ (h v' w' h2 h3 h4 h5)

theorem own_only {F : Nat → Prop} {w w' : World} {base : Nat} {e : TypeId} {size : Nat} {v : Value} {n : Nat} {xs : List Value} (h : w.ownsRow base e size v n xs) (ho : Only F w w') (hl : ∀ g, v.ownBlock = some g → ¬ F g) : w'.ownsRow base e size v n xs := by
  refine ⟨h.1, ?_⟩
  rcases h.2 with h1 | ⟨g, cap, cur, rfl, hg, hh, r⟩
  · exact .inl h1
  · exact .inr ⟨g, cap, cur, rfl, hg, (Blk.only (t := e) hh ho (hl g rfl)), r⟩
theorem own_lt {w : World} {base : Nat} {e : TypeId} {size : Nat} {v : Value} {n : Nat} {xs : List Value} (h : w.ownsRow base e size v n xs) {g : Nat} (hg : v.ownBlock = some g) : g < w.heap.size := (h.lt g hg).2
theorem own_ne {w : World} {base e e' : Nat} {size size' n n' : Nat} {v v' : Value} {xs xs' : List Value} (h : w.ownsRow base e size v n xs) (h' : w.ownsRow base e' size' v' n' xs') (hne : e ≠ e') {g : Nat} (hg : v.ownBlock = some g) (hg' : v'.ownBlock = some g) : False := by
  rcases h.2 with ⟨rfl, _⟩ | ⟨g1, _, _, rfl, _, hh, _⟩
  · simp [Value.ownBlock] at hg
  · rcases h'.2 with ⟨rfl, _⟩ | ⟨g2, _, _, rfl, _, hh', _⟩
    · simp [Value.ownBlock] at hg'
    · simp [Value.ownBlock] at hg hg'
      subst hg
      subst hg'
      exact Blk.ne_ (t := e) (t' := e') hh hh' hne rfl
theorem only_set (w : World) (p : Addr) (u : Value) : Only (fun k => k = p.block) w (w.setCell p u) := (Only.refl (fun k => k = p.block) w).setCell (p := p) (.inl rfl) u
@[simp] theorem ownBlock_some (g n cap : Nat) : (Value.slice (some ⟨g, 0, none⟩) n cap).ownBlock = some g := rfl
@[simp] theorem ownBlock_none (n cap : Nat) : (Value.slice none n cap).ownBlock = none := rfl

/-- elements of s cells each, one behind the other -/
theorem flat_length {α : Type} {f : α → List Value} {s : Nat} (hf : ∀ a, (f a).length = s) (l : List α) : (l.flatMap f).length = l.length * s := by
  induction l with
  | nil => simp
  | cons a l ih => simp [List.flatMap_cons, ih, hf, Nat.add_mul]; omega
theorem flat_get {α : Type} {f : α → List Value} {s : Nat} (hf : ∀ a, (f a).length = s) (l : List α) {k : Nat} (hk : k < l.length) {j : Nat} (hj : j < s) : (l.flatMap f)[k * s + j]? = (f l[k])[j]? := by
  induction l generalizing k with
  | nil => simp at hk
  | cons a l ih =>
    rw [List.flatMap_cons]
    cases k with
    | zero => simp [List.getElem?_append, hf, hj]
    | succ k =>
      have hk' : k < l.length := by simpa using hk
      rw [List.getElem?_append_right (by rw [hf, Nat.add_mul]; omega), hf]
      have : (k + 1) * s + j - s = k * s + j := by rw [Nat.add_mul]; omega
      rw [this, ih hk']
      simp
theorem flat_one {α : Type} {f : α → List Value} (hf : ∀ a, ∀ u ∈ f a, u.oneCell' = true) (l : List α) : ∀ u ∈ l.flatMap f, u.oneCell' = true := by
  intro u hu
  obtain ⟨a, _, h⟩ := List.mem_flatMap.1 hu
  exact hf a u h

theorem flat_get0 {α : Type} {f : α → List Value} {s : Nat} (hf : ∀ a, (f a).length = s) (l : List α) {k : Nat} (hk : k < l.length) (hs : 0 < s) : (l.flatMap f)[k * s]? = (f l[k])[0]? := flat_get hf l hk (j := 0) hs

theorem own_form {w : World} {base : Nat} {e : TypeId} {size : Nat} {v : Value} {n : Nat} {xs : List Value} (h : w.ownsRow base e size v n xs) : ∃ A cap, v = .slice A n cap ∧ Sl w size A n cap xs := by
  have h' := h
  rcases h.2 with ⟨rfl, rfl⟩ | ⟨g, cap, cur, rfl, _⟩
  · exact ⟨_, _, rfl, Sl.of_own h'⟩
  · exact ⟨_, _, rfl, Sl.of_own h'⟩

theorem flat_get' {α : Type} {f : α → List Value} {s : Nat} (l : List α) (hf : ∀ a ∈ l, (f a).length = s) {k : Nat} (hk : k < l.length) {j : Nat} (hj : j < s) : (l.flatMap f)[k * s + j]? = (f l[k])[j]? := by
  induction l generalizing k with
  | nil => simp at hk
  | cons a l ih =>
    rw [List.flatMap_cons]
    have ha := hf a (by simp)
    cases k with
    | zero => simp [List.getElem?_append, ha, hj]
    | succ k =>
      have hk' : k < l.length := by simpa using hk
      rw [List.getElem?_append_right (by rw [ha, Nat.add_mul]; omega), ha]
      have : (k + 1) * s + j - s = k * s + j := by rw [Nat.add_mul]; omega
      rw [this, ih (fun b hb => hf b (by simp [hb])) hk']
      simp
theorem flat_length' {α : Type} {f : α → List Value} {s : Nat} (l : List α) (hf : ∀ a ∈ l, (f a).length = s) : (l.flatMap f).length = l.length * s := by
  induction l with
  | nil => simp
  | cons a l ih =>
    rw [List.flatMap_cons, List.length_append, ih (fun b hb => hf b (by simp [hb])), hf a (by simp), List.length_cons, Nat.add_mul]
    omega

/-- the results of a function that answers a struct and one thing more -/
theorem results_pair {P : Program} {fn : Func} {p u : Tmp} {ty : TypeId} (h : fn.results = #[.cell p ty, .tmp u]) (tmps : Array Value) (w : World) (g : Nat) (t : TypeId) (cs : Array Value) (d : TypeDesc)
    (hp : tmps.getD p undef = .pointer (some ⟨g, 0, none⟩)) (hg : Blk w g t cs)
    (hu : P.underlying ty = some d) (hd : (match d with | .struct _ | .array _ _ => true | _ => false) = true) (hi : (P.info? ty).map (·.size) = some cs.size) :
    (results fn tmps).run P w = .ok (.tuple #[.agg cs, tmps.getD u undef]) w := by
  rw [results_cell_tmp h, hp]
  simp [asAddr, run_loadVar_row w g t ty cs (0, 0) d hg hu hd hi, Result.andThen]

end Go.Proofs.YtngphebjmmencaaDoor
