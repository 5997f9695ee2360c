/- A plain model of what a call does, without addresses, capacities and orders: values are trees, slices are lists. The evaluation 'runK' of a function's body in it. -/
import Derived.WalkKit
namespace Go.Proofs.YtngphebjmmencaaDoor
set_option linter.unusedSimpArgs false
set_option linter.unusedVariables false
open Go

inductive AV where
  | junk
  | bool (b : Bool)
  | int (k : IntKind) (n : Int)
  | str (s : List UInt8)
  | nilp
  | ptr (b i off : Nat)
  | tptr (t : TypeId) (b : Nat)
  | ip (e : List AV) (off : Nat)
  | nils
  | isl (id : Option Nat) (el : TypeId) (es : List (List AV))
  | msl (b o n : Nat) (el : TypeId)
  | fn (f : FuncId) (first captured : List AV)
  | nilf
  | nili
  | iface (t : TypeId) (v : AV)
  | agg (cs : List AV)
  | tup (vs : List AV)
  deriving Inhabited

abbrev i64 (n : Int) : AV := .int .i64 n

def AV.cells : AV → List AV
  | .agg cs => cs
  | v => [v]
def AV.one : AV → Bool
  | .junk | .agg _ | .tup _ => false
  | _ => true

/-- memory that may turn: blocks of rows of cells; and how many elements stand in the row at whose end a slice may grow -/
structure AH where
  n : Nat
  cell : Nat → Option (List (List AV))
  ids : Nat
  hw : Nat → Nat

def AH.set (h : AH) (b : Nat) (es : Option (List (List AV))) : AH := { h with cell := fun k => if k = b then es else h.cell k }
def AH.push (h : AH) (es : List (List AV)) : AH := { h with n := h.n + 1, cell := fun k => if k = h.n then some es else h.cell k }
def AH.grow (h : AH) (id m : Nat) : AH := { h with hw := fun k => if k = id then m else h.hw k }
def AH.fresh (h : AH) (m : Nat) : AH := { h with ids := h.ids + 1, hw := fun k => if k = h.ids then m else h.hw k }

def scalarA : Value → AV
  | .bool b => .bool b
  | .int k n => .int k n
  | .string s => .str s.data.toList
  | .pointer none => .nilp
  | .slice none 0 0 => .nils
  | .nilFunc => .nilf
  | .nilIface => .nili
  | _ => .junk
def constA : Value → AV
  | .agg cs => .agg (cs.toList.map scalarA)
  | v => scalarA v

def evA (t : List AV) : Operand → AV
  | .tmp i => t.getD i .junk
  | .const v => constA v
  | .func f => .fn f [] []
  | .global _ => .junk

def putA (t : List AV) (d : Option Tmp) (v : AV) : List AV :=
  match d with
  | some i => t.set i v
  | none => t

section
variable (P : Program)
def szA (t : TypeId) : Nat := P.cellsOf t
def aggA (t : TypeId) : Bool := match P.underlying t with
  | some (.struct _) | some (.array ..) => true
  | _ => false
def zeroA (t : TypeId) : Option (List AV) := if t < P.types.size then (P.info? t).bind fun i => i.zero.map fun v => (constA v).cells else none
def fieldsA (t : TypeId) : Option (List (Nat × TypeId)) := match P.underlying t with
  | some (.struct fs) => some (fs.toList.map fun f => (f.offset, f.type))
  | _ => none
def elemA (t : TypeId) : Option TypeId := if t < P.types.size then match P.underlying t with
  | some (.slice e) => some e
  | _ => none else none
def arrA (t : TypeId) : Option (Nat × TypeId) := match P.underlying t with
  | some (.array n e) => some (n, e)
  | _ => none

inductive Kd where
  | bool | int (k : IntKind) | str | ptr | slice | iface | func | agg | other
def kindA (t : TypeId) : Kd := match P.underlying t with
  | some .bool => .bool
  | some (.int k) => .int k
  | some .string => .str
  | some (.pointer _) => .ptr
  | some (.slice _) => .slice
  | some (.interface _) => .iface
  | some (.func ..) => .func
  | some (.struct _) | some (.array ..) => .agg
  | _ => .other
end

def isStrT (P : Program) (t : TypeId) : Bool := match P.underlying t with
  | some .string => true
  | _ => false
def isSlcT (P : Program) (t : TypeId) : Bool := (elemA P t).isSome
def plainT (P : Program) (t : TypeId) : Bool := match P.underlying t with
  | some (.interface _) => false
  | some _ => true
  | none => false
def fitsT (P : Program) (t : TypeId) : AV → Bool
  | .str _ => isStrT P t
  | .isl _ el _ => elemA P t == some el
  | .msl _ _ _ el => elemA P t == some el
  | .nils => isSlcT P t
  | _ => false

def ldA (agg : Bool) (n : Nat) (e : List AV) (off : Nat) : Option AV :=
  if agg then (if off + n ≤ e.length then some (.agg ((e.drop off).take n)) else none) else e[off]?
def stA (e : List AV) (off : Nat) (cs : List AV) : List AV := e.take off ++ cs ++ e.drop (off + cs.length)

def AH.row (h : AH) (b i : Nat) : Option (List AV) := (h.cell b).bind (·[i]?)

def loadA (agg : Bool) (n : Nat) (h : AH) : AV → Option AV
  | .ptr b i off => (h.row b i).bind fun e => ldA agg n e off
  | .tptr _ b => (h.row b 0).bind fun e => ldA agg n e 0
  | .ip e off => ldA agg n e off
  | _ => none
def storeA (n : Nat) (h : AH) (a x : AV) : Option AH :=
  match a with
  | .ptr b i off => (h.cell b).bind fun es => (es[i]?).bind fun e =>
      if x.cells.all AV.one ∧ x.cells.length = n ∧ off + n ≤ e.length then some (h.set b (some (es.set i (stA e off x.cells)))) else none
  | .tptr _ b => (h.cell b).bind fun es => (es[0]?).bind fun e =>
      if x.cells.all AV.one ∧ x.cells.length = n ∧ 0 + n ≤ e.length then some (h.set b (some (es.set 0 (stA e 0 x.cells)))) else none
  | _ => none

def fillA : List (Nat × Nat) → List AV → List (Nat × AV) → Option (List AV)
  | _, cs, [] => some cs
  | pl, cs, (i, v) :: r => match pl[i]? with
    | some (off, size) => if v.cells.length = size ∧ off + size ≤ cs.length ∧ v.cells.all AV.one then fillA pl (stA cs off v.cells) r else none
    | none => none
def fillE : Nat → List (List AV) → List (Nat × AV) → Option (List (List AV))
  | _, es, [] => some es
  | sz, es, (i, v) :: r => if v.cells.length = sz ∧ i < es.length ∧ v.cells.all AV.one then fillE sz (es.set i v.cells) r else none

def intA (op : BinOp) (k : IntKind) (a b : Int) : Option AV :=
  match op with
  | .add => some (.int k (k.wrap (a + b)))
  | .sub => some (.int k (k.wrap (a - b)))
  | .mul => some (.int k (k.wrap (a * b)))
  | .eql => some (.bool (a == b))
  | .neq => some (.bool (a != b))
  | .lss => some (.bool (a < b))
  | .leq => some (.bool (a ≤ b))
  | .gtr => some (.bool (a > b))
  | .geq => some (.bool (a ≥ b))
  | .and => some (.int k (k.wrap (BitVec.ofInt k.bits a &&& BitVec.ofInt k.bits b).toNat))
  | .or => some (.int k (k.wrap (BitVec.ofInt k.bits a ||| BitVec.ofInt k.bits b).toNat))
  | .andNot => some (.int k (k.wrap (BitVec.ofInt k.bits a &&& ~~~(BitVec.ofInt k.bits b)).toNat))
  | .rem => if b = 0 then none else some (.int k (a.tmod b))
  | _ => none

/-- are two values of a type the same? -/
def eqA : Kd → AV → AV → Option Bool
  | .bool, .bool a, .bool b => some (a == b)
  | .ptr, .nilp, .nilp => some true
  | .ptr, .nilp, .ptr .. => some false
  | .ptr, .nilp, .ip .. => some false
  | .ptr, .nilp, .tptr .. => some false
  | .ptr, .tptr .., .nilp => some false
  | .ptr, .ptr .., .nilp => some false
  | .ptr, .ip .., .nilp => some false
  | .slice, .nils, .nils => some true
  | .slice, .isl .., .nils => some false
  | .slice, .msl .., .nils => some false
  | .slice, .nils, .isl .. => some false
  | .slice, .nils, .msl .. => some false
  | .func, .nilf, .nilf => some true
  | .func, .fn .., .nilf => some false
  | .func, .nilf, .fn .. => some false
  | .iface, .iface .., .nili => some false
  | .iface, .nili, .iface .. => some false
  | _, _, _ => none

def binA (kd : Kd) (op : BinOp) (x y : AV) : Option AV :=
  match x, y with
  | .int k a, .int k' b =>
    match op with
    | .shl => if b < 0 then none else some (.int k (k.wrap (a * 2 ^ min b.toNat k.bits)))
    | .shr => if b < 0 then none else some (.int k (a.fdiv (2 ^ min b.toNat k.bits)))
    | _ => if k = k' then intA op k a b else none
  | .str a, .str b => match op with
    | .add => if a.length + b.length ≤ 1000000000000 then some (.str (a ++ b)) else none
    | .eql => some (.bool (a == b))
    | .neq => some (.bool (a != b))
    | _ => none
  | x, y => match op with
    | .eql => (eqA kd x y).map .bool
    | .neq => (eqA kd x y).map fun b => .bool !b
    | _ => none

/-- rows of scalars, compared cell by cell -/
def eqCells : List Kd → List AV → List AV → Option Bool
  | [], [], [] => some true
  | .int _ :: ks, .int k a :: xs, .int k' b :: ys => if k = k' then (eqCells ks xs ys).map fun r => (a == b) && r else none
  | .bool :: ks, .bool a :: xs, .bool b :: ys => (eqCells ks xs ys).map fun r => (a == b) && r
  | .str :: ks, .str a :: xs, .str b :: ys => (eqCells ks xs ys).map fun r => (a == b) && r
  | _, _, _ => none
/-- is a type a struct of numbers, bools and strings? their kinds -/
def flatK (P : Program) (t : TypeId) : Option (List Kd) := match P.underlying t with
  | some (.struct fs) => if !P.stoodInHeld t && !P.eqGuardType P.depth t && (fs.toList.zipIdx.all fun (f, i) => f.name != "_" && f.offset == i && P.cellsOf f.type == 1) then some (fs.toList.map fun f => kindA P f.type) else none
  | _ => none

/-- a call of a Go function: which one, and its arguments -/
def calleeA (t : List AV) (o : Oper) : Option (FuncId × List AV) :=
  match o.op with
  | .call { callee := .value f, args, .. } => match evA t f with
    | .fn g first captured => some (g, first ++ args.toList.map (evA t) ++ captured)
    | _ => none
  | _ => none

def lenA : AV → Option Nat
  | .nils => some 0
  | .isl _ _ es => some es.length
  | .msl _ _ n _ => some n
  | .str s => some s.length
  | _ => none
/-- the elements of a slice -/
def elemsA (h : AH) (sz : TypeId) : AV → Option (List (List AV))
  | .nils => some []
  | .isl _ z es => if z = sz then some es else none
  | .msl b o n z => if z = sz then (h.cell b).bind fun es => if o + n ≤ es.length then some ((es.drop o).take n) else none else none
  | _ => none

/-- nothing is appended -/
def sameA (el : TypeId) (s : AV) (h : AH) : Option (AV × AH) := match s with
  | .nils => some (.nils, h)
  | .isl id z es => if z = el then some (.isl id z es, h) else none
  | .msl b o n z => if z = el then some (.msl b o n z, h) else none
  | _ => none
def moreA (mu : Bool) (el : TypeId) (s : AV) (new : List (List AV)) (h : AH) : Option (AV × AH) :=
  if 0 < new.length ∧ new.length ≤ 1000000 ∧ new.all (·.all AV.one) then
    match s with
    | .nils => if mu then some (.msl h.n 0 new.length el, h.push new) else some (.isl (some h.ids) el new, h.fresh new.length)
    | .isl (some k) z es => if z = el ∧ h.hw k = es.length ∧ es.length ≤ 1000000 then some (.isl (some k) el (es ++ new), h.grow k (es.length + new.length)) else none
    | .msl b o n z => if z = el ∧ o = 0 ∧ n ≤ 1000000 then
        (h.cell b).bind fun es => if n ≤ es.length then some (.msl h.n 0 (n + new.length) el, (h.set b none).push (es.take n ++ new)) else none
      else none
    | _ => none
  else none
def appendA (mu : Bool) (el : TypeId) (s x : AV) (h : AH) : Option (AV × AH) :=
  match x with
  | .nils => sameA el s h
  | x => (elemsA h el x).bind fun new => if new.length = 0 then sameA el s h else moreA mu el s new h

/-- bytes as rows of a cell -/
abbrev bytesA (l : List UInt8) : List (List AV) := l.map fun c => [.int .u8 c.toNat]
/-- is a type that of bytes? -/
def u8OK (P : Program) (e : TypeId) : Bool := match P.info? e with
  | some i => (match i.zero with | some (.int .u8 n) => n == 0 | _ => false) && i.size == 1 && i.bytes == 1
  | none => false
/-- a text is appended to bytes -/
def appendS (mu : Bool) (el : TypeId) (s x : AV) (h : AH) : Option (AV × AH) :=
  match x with
  | .str l => if l.length = 0 then sameA el s h else if l.length ≤ 1000000000 then (match s with
    | .nils => if mu then some (.msl h.n 0 l.length el, h.push (bytesA l)) else none
    | .msl b o n z => if z = el ∧ o = 0 ∧ n ≤ 1000000000 then
        (h.cell b).bind fun es => if n ≤ es.length then some (.msl h.n 0 (n + l.length) el, (h.set b none).push (es.take n ++ bytesA l)) else none
      else none
    | _ => none) else none
  | _ => none

def loA : Option AV → Option Int
  | none => some 0
  | some (.int _ l) => some l
  | _ => none
def hiA (n : Nat) : Option AV → Option Int
  | none => some n
  | some (.int _ r) => some r
  | _ => none
def cutA (x : AV) (l r : Int) : Option AV :=
  match x with
  | .str s => some (.str ((s.drop l.toNat).take (r.toNat - l.toNat)))
  | .isl _ z es => some (.isl none z ((es.drop l.toNat).take (r.toNat - l.toNat)))
  | .nils => some .nils
  | .msl b o _ z => if l = 0 then some (.msl b o r.toNat z) else none
  | _ => none
def sliceA (x : AV) (lo hi : Option AV) : Option AV :=
  (loA lo).bind fun l => (lenA x).bind fun n => (hiA n hi).bind fun r => if 0 ≤ l ∧ l ≤ r ∧ r ≤ n then cutA x l r else none

def unA (op : UnOp) (x : AV) : Option AV :=
  match op, x with
  | .not, .bool b => some (.bool !b)
  | .neg, .int k n => some (.int k (k.wrap (0 - n)))
  | _, _ => none
def cvA (kd : Kd) (x : AV) : Option AV :=
  match kd, x with
  | .int k, .int _ n => some (.int k (k.wrap n))
  | .str, .str s => some (.str s)
  | _, _ => none
/-- the lesser, the greater of two numbers -/
def mmA (mx : Bool) : AV → AV → Option AV
  | .int k a, .int _ b => some (.int k (if mx then (if b > a then b else a) else (if b < a then b else a)))
  | _, _ => none
def fldA (off : Nat) : AV → Option AV
  | .ptr b i o => some (.ptr b i (o + off))
  | .tptr t b => some (if off = 0 then .tptr t b else .ptr b 0 off)
  | .ip e o => some (.ip e (o + off))
  | _ => none
def ixAddrA (P : Program) (ty : TypeId) (x k : AV) : Option AV :=
  match x, k with
  | .isl _ el es, .int _ k => if elemA P ty = some el ∧ 0 ≤ k then (es[k.toNat]?).map fun e => .ip e 0 else none
  | .msl b o n el, .int _ k => if elemA P ty = some el ∧ 0 ≤ k ∧ k < n then some (.ptr b (o + k.toNat) 0) else none
  | .ptr b i off, .int _ k => (arrA P ty).bind fun q => if szA P q.2 ≠ 0 ∧ 0 ≤ k ∧ k < q.1 then some (.ptr b i (off + k.toNat * szA P q.2)) else none
  | .ip e off, .int _ k => (arrA P ty).bind fun q => if szA P q.2 ≠ 0 ∧ 0 ≤ k ∧ k < q.1 then some (.ip e (off + k.toNat * szA P q.2)) else none
  | _, _ => none
def ixA (P : Program) (ty : TypeId) (x k : AV) : Option AV :=
  match x, k with
  | .str s, .int _ k => if isStrT P ty = true ∧ 0 ≤ k then (s[k.toNat]?).map fun c => .int .u8 c.toNat else none
  | .agg cs, .int _ k => (arrA P ty).bind fun q => if (P.underlying q.2).isSome ∧ szA P q.2 ≠ 0 ∧ 0 ≤ k ∧ k < q.1 then ldA (aggA P q.2) (szA P q.2) cs (k.toNat * szA P q.2) else none
  | _, _ => none

/-- an operation that only computes -/
def pureOp (P : Program) (t : List AV) (o : Oper) : Option AV :=
  match o.op with
  | .move x => some (evA t x)
  | .assign x => some (evA t x)
  | .pick c a b => match evA t c with
    | .bool v => some (if v then evA t a else evA t b)
    | _ => none
  | .build ty parts => (zeroA P ty).bind fun z => match fieldsA P ty with
    | some pl => if pl.all (fun q => szA P q.2 != 0) then (fillA (pl.map fun q => (q.1, szA P q.2)) z (parts.toList.map fun q => (q.1, evA t q.2))).map .agg else none
    | none => (arrA P ty).bind fun q => if szA P q.2 = 0 then none else (fillA ((List.range q.1).map fun i => (i * szA P q.2, szA P q.2)) z (parts.toList.map fun q => (q.1, evA t q.2))).map .agg
  | .nilCheck x => match evA t x with
    | .ptr b i off => some (.ptr b i off)
    | .tptr t b => some (.tptr t b)
    | .ip e off => some (.ip e off)
    | .fn f a c => some (.fn f a c)
    | .iface q v => some (.iface q v)
    | _ => none
  | .binOp op ty x y _ => match evA t x, evA t y with
    | .nili, .nili => match kindA P ty, y, op with
      | .iface, .const _, .eql => some (.bool true)
      | .iface, .const _, .neq => some (.bool false)
      | _, _, _ => none
    | .agg xs, .agg ys => (flatK P ty).bind fun ks => match op with
      | .eql => (eqCells ks xs ys).map fun b => .bool b
      | .neq => (eqCells ks xs ys).map fun b => .bool !b
      | _ => none
    | a, b => binA (kindA P ty) op a b
  | .unOp op _ x => unA op (evA t x)
  | .convert src dst x => if (P.underlying src).isNone then none else cvA (kindA P dst) (evA t x)
  | .makeInterface ty x => if plainT P ty = false then none else if (evA t x).one then some (.iface ty (evA t x)) else match evA t x with
    | .agg cs => some (.iface ty (.agg cs))
    | _ => none
  | .makeFunc f first captured => match f with
    | .func g => some (.fn g (first.toList.map (evA t)) (captured.toList.map (evA t)))
    | _ => none
  | .slice ty x lo hi mx => if mx.isSome || !fitsT P ty (evA t x) then none else sliceA (evA t x) (lo.map (evA t)) (hi.map (evA t))
  | .fieldAddr s x f => ((fieldsA P s).bind (·[f]?)).bind fun q => if szA P q.2 = 0 then none else fldA q.1 (evA t x)
  | .field s x f => ((fieldsA P s).bind (·[f]?)).bind fun q => match evA t x with
    | .agg cs => if szA P q.2 = 0 ∨ (P.underlying q.2).isNone then none else ldA (aggA P q.2) (szA P q.2) cs q.1
    | _ => none
  | .indexAddr ty x ix => ixAddrA P ty (evA t x) (evA t ix)
  | .index ty x ix => ixA P ty (evA t x) (evA t ix)
  | .typeAssert x _ as ok => match evA t x with
    | .iface q v => if plainT P as = true ∧ q = as then some (if ok then .tup [v, .bool true] else v) else none
    | _ => none
  | .extract x i => match evA t x with
    | .tup vs => vs[i]?
    | _ => none
  | .call { callee := .builtin .len, args, argTypes } => match args.toList, argTypes.toList with
    | [x], ty :: _ => if fitsT P ty (evA t x) then (lenA (evA t x)).map fun (n : Nat) => i64 n else none
    | _, _ => none
  | .call { callee := .builtin .min, args, .. } => match args.toList with
    | [x, y] => mmA false (evA t x) (evA t y)
    | _ => none
  | .call { callee := .builtin .max, args, .. } => match args.toList with
    | [x, y] => mmA true (evA t x) (evA t y)
    | _ => none
  | _ => none

def evalOp (P : Program) (mu : TypeId → Bool) (t : List AV) (h : AH) (o : Oper) : Option (AV × AH) :=
  match o.op with
  | .alloc e => (zeroA P e).map fun z => (if mu e then .tptr e h.n else .ptr h.n 0 0, h.push [z])
  | .box e x => if (evA t x).cells.all AV.one ∧ (evA t x).cells.length = szA P e then some (if mu e then .tptr e h.n else .ptr h.n 0 0, h.push [(evA t x).cells]) else none
  | .buildSlice ty len parts => (elemA P ty).bind fun e => (zeroA P e).bind fun z => if len * szA P e ≤ 16777216 then
      (fillE (szA P e) (List.replicate len z) (parts.toList.map fun q => (q.1, evA t q.2))).map fun es =>
        if mu ty then (.msl h.n 0 len e, h.push es) else (.isl (some h.ids) e es, h.fresh len)
      else none
  | .load ty a => if (P.underlying ty).isNone then none else (loadA (aggA P ty) (szA P ty) h (evA t a)).map fun v => (v, h)
  | .store ty a x => if szA P ty = 0 then none else (storeA (szA P ty) h (evA t a) (evA t x)).map fun h' => (.junk, h')
  | .makeSlice ty l c => match evA t l, evA t c with
    | .int _ n, .int _ m => (elemA P ty).bind fun e => (zeroA P e).bind fun z =>
        if 0 ≤ n ∧ n = m ∧ n ≤ 100000 then some (.msl h.n 0 n.toNat e, h.push (List.replicate n.toNat z)) else none
    | _, _ => none
  | .call { callee := .builtin .append, args, argTypes } => match args.toList, argTypes.toList with
    | [x, y], [ty, ty'] => if ty = ty' then (elemA P ty).bind fun e => if (zeroA P e).isSome then appendA (mu ty) e (evA t x) (evA t y) h else none
      else if isStrT P ty' then (elemA P ty).bind fun e => if u8OK P e then appendS (mu ty) e (evA t x) (evA t y) h else none else none
    | _, _ => none
  | _ => (pureOp P t o).map fun v => (v, h)

/-- a panic of the program's own -/
def panA (t : List AV) (o : Oper) : Option AV :=
  match o.op with
  | .panic x => match evA t x with
    | .iface q v => some (.iface q v)
    | _ => none
  | _ => none

/-- is an operation wanted? -/
def wantedA (ops : Array Oper) (t : List AV) (o : Oper) : Option Bool :=
  match o.guard with
  | none => some true
  | some (j, want) => match (ops[j]?).bind (·.dst) with
    | some d => match t.getD d .junk with
      | .bool b => some (if want then b else !b)
      | .tup _ => some false
      | _ => none
    | none => none

inductive AItem where
  | code (c : Code)
  | inBlock (id : Nat)
  | inLoop (c : Code)
  | ops (draw : Bool) (all : Array Oper) (l : List (Oper × List Oper))
  | halt (K : List Item)

def exitA (id : Nat) : List AItem → Option (List AItem)
  | [] => none
  | .inBlock i :: k => if i = id then some k else exitA id k
  | .halt _ :: _ => none
  | _ :: k => exitA id k

inductive AEx where
  | ret
  | panic (v : AV)
  | halt (K : List Item)

/-- what a function answers -/
def resL (P : Program) (t : List AV) (h : AH) : List ResultVar → Option (List AV)
  | [] => some []
  | .tmp i :: rs => (resL P t h rs).map fun l => t.getD i .junk :: l
  | .cell i ty :: rs => if (P.underlying ty).isNone then none else (loadA (aggA P ty) (szA P ty) h (t.getD i .junk)).bind fun v => (resL P t h rs).map fun l => v :: l
def oneA : List AV → AV
  | [v] => v
  | vs => .tup vs
def resA (fn : Func) (t : List AV) (h : AH) (P : Program) : Option AV := (resL P t h fn.results.toList).map oneA

/-! ### statements whose order Go leaves open: an order in which it is enough to go, and what must stay -/
def looksA (ops : Array Oper) (o : Oper) : List Tmp := o.looksAt ops
def stillA (o : Oper) : Bool := match o.op with
  | .alloc _ | .box .. | .buildSlice .. | .store .. | .makeSlice .. | .panic _ => false
  | .call { callee := .builtin .append, .. } => false
  | .call { callee := .value _, .. } => false
  | _ => true
def isLoad (o : Oper) : Bool := match o.op with
  | .load .. => true
  | _ => false
/-- must i come ahead of j? -/
def preA (M : Array Nat) (i j : Nat) : Bool := (M.getD j 0).testBit i
/-- each that must come ahead is one that an edge names, or must come ahead of one -/
def maskOK (ops : Array Oper) (M : Array Nat) : Bool :=
  (List.range ops.size).all fun j => (List.range ops.size).all fun i => !preA M i j || ((ops[j]?).any fun o => o.after.any fun e => Region.binds .any e && decide (e.on < j) && (e.on == i || preA M i e.on))
def pairOK (ops : Array Oper) (M : Array Nat) (x y : Nat × List Nat) : Bool :=
  let ox := ops.getD x.1 default
  let oy := ops.getD y.1 default
  x.1 != y.1 &&
  -- y is named by no edge of x, and must not come ahead of x
  !(ox.after.any fun e => Region.binds .any e && e.on == y.1) && !preA M y.1 x.1 &&
  (stillA ox || preA M x.1 y.1) &&
  (stillA oy || !isLoad ox || preA M x.1 y.1 || y.2.contains x.1) &&
  (match oy.dst with | some d => !(ox.looksAt ops).contains d && ox.dst != some d | none => true) &&
  (match ox.dst with | some d => !(oy.looksAt ops).contains d || preA M x.1 y.1 | none => true)
def pairsOK (ops : Array Oper) (M : Array Nat) : List (Nat × List Nat) → Bool
  | [] => true
  | x :: r => r.all (pairOK ops M x) && pairsOK ops M r
def planOK (ops : Array Oper) (pl : List (Nat × List Nat)) : Bool :=
  let M := Region.before ops
  (List.range ops.size).all (fun i => pl.any fun q => q.1 == i) && pl.all (fun q => decide (q.1 < ops.size) && (let o := ops.getD q.1 default
    (match o.dst with | some d => !(o.looksAt ops).contains d | none => true) && (!stillA o || q.2.isEmpty) && (match o.op with | .select .. => false | _ => true) && q.2.all fun i => decide (i < ops.size))) &&
  ((List.range ops.size).all fun j => (ops.getD j default).after.all fun e => !Region.binds .any e || decide (e.on < j)) &&
  maskOK ops M && pairsOK ops M pl
def regOK (pl : Nat → List (Nat × List Nat)) : Code → Bool
  | .region id ops d => !d || planOK ops (pl id)
  | .seq a b => regOK pl a && regOK pl b
  | .cond _ a b => regOK pl a && regOK pl b
  | .block _ b => regOK pl b
  | .loop b => regOK pl b
  | _ => true

/-- what is left to the walk: functions known by another road, which slices turn, how many slots are variables, the orders, which functions are gone into, and of which the memory that they made is forgotten -/
structure Pol where
  ext : FuncId → Option (List AV → AH → Option ((AV ⊕ AV) × AH))
  mu : FuncId → TypeId → Bool
  nv : FuncId → Nat
  plan : FuncId → Nat → List (Nat × List Nat)
  use : FuncId → Bool
  pure : FuncId → Bool

mutual
/-- a value that speaks of no memory that may turn -/
def wkA : AV → Option AV
  | .isl _ z es => (wkR es).map (.isl none z)
  | .agg cs => (wkL cs).map .agg
  | .tup vs => (wkL vs).map .tup
  | .iface t v => (wkA v).map (.iface t)
  | .ip _ _ | .ptr _ _ _ | .tptr _ _ | .msl _ _ _ _ | .fn _ _ _ => none
  | .junk => some .junk
  | .bool b => some (.bool b)
  | .int k n => some (.int k n)
  | .str s => some (.str s)
  | .nilp => some .nilp
  | .nils => some .nils
  | .nilf => some .nilf
  | .nili => some .nili
def wkL : List AV → Option (List AV)
  | [] => some []
  | v :: l => match wkA v, wkL l with
    | some v, some l => some (v :: l)
    | _, _ => none
def wkR : List (List AV) → Option (List (List AV))
  | [] => some []
  | v :: l => match wkL v, wkR l with
    | some v, some l => some (v :: l)
    | _, _ => none
end

/-- only new memory -/
structure GrewA (h h' : AH) : Prop where
  n : h.n ≤ h'.n
  ids : h.ids ≤ h'.ids
  cell : ∀ b, b < h.n → h'.cell b = h.cell b
  hw : ∀ k, k < h.ids → h'.hw k = h.hw k
open Classical in
/-- the memory that a call made is forgotten -/
noncomputable def fgA (p : Bool) (h : AH) (q : (AV ⊕ AV) × AH) : Option ((AV ⊕ AV) × AH) :=
  if p = true then (if GrewA h q.2 then (match q.1 with
    | .inl v => (wkA v).map fun v => (.inl v, h)
    | .inr v => (wkA v).map fun v => (.inr v, h)) else none) else some q

/-- what was loaded ahead still lies there -/
def chkA (P : Program) (all : Array Oper) (t : List AV) (h : AH) : List Oper → Prop
  | [] => True
  | o :: r => (match wantedA all t o with
      | some true => (match o.op, o.dst with
        | .load ty a, some d => loadA (aggA P ty) (szA P ty) h (evA t a) = some (t.getD d .junk)
        | _, _ => False)
      | _ => True) ∧ chkA P all t h r
def planA (draw : Bool) (ops : Array Oper) (pl : List (Nat × List Nat)) : List (Oper × List Oper) :=
  if draw then pl.map fun q => (ops.getD q.1 default, q.2.map fun i => ops.getD i default) else ops.toList.map fun o => (o, [])

def clearA (n : Nat) (t : List AV) : List AV := t.take n ++ List.replicate (t.length - n) .junk

/-- what a call comes to -/
def outA (P : Program) (fn : Func) (r : AEx × List AV × AH) : Option ((AV ⊕ AV) × AH) := match r.1 with
  | .ret => (resA fn r.2.1 r.2.2 P).map fun v => (.inl v, r.2.2)
  | .panic v => some (.inr v, r.2.2)
  | .halt _ => none

open Classical in
noncomputable def runK (P : Program) (po : Pol) (f : FuncId) (k : List AItem) (t : List AV) (h : AH) : Option (AEx × List AV × AH) :=
  match k with
  | [] => some (.ret, t, h)
  | .inBlock _ :: k => runK P po f k t h
  | .halt K :: _ => some (.halt K, t, h)
  | .inLoop c :: k => runK P po f (.code c :: .inLoop c :: k) (clearA (po.nv f) t) h
  | .ops _ _ [] :: k => runK P po f k t h
  | .ops dr all ((o, ck) :: l) :: k =>
    match wantedA all t o with
    | none => none
    | some false => runK P po f (.ops dr all l :: k) (putA t o.dst (.tup [])) h
    | some true =>
     match panA t o with
     | some v => some (.panic v, t, h)
     | none =>
      match calleeA t o with
      | some (g, args) =>
        match po.ext g with
        | some F => F args h >>= fun r => match r.1 with
          | .inl v => if chkA P all (putA t o.dst v) r.2 ck then runK P po f (.ops dr all l :: k) (putA t o.dst v) r.2 else none
          | .inr v => some (.panic v, t, r.2)
        | none => match P.funcs[g]? with
          | none => none
          | some fn => match fn.body with
            | none => none
            | some c => if po.use g = false then none else (runK P po g [.code c] (args ++ List.replicate (fn.ntmps - args.length) .junk) h) >>= fun r => outA P fn r >>= fun q => fgA (po.pure g) h q >>= fun q => match q.1 with
              | .inl v => if chkA P all (putA t o.dst v) q.2 ck then runK P po f (.ops dr all l :: k) (putA t o.dst v) q.2 else none
              | .inr v => some (.panic v, t, q.2)
      | none => evalOp P (po.mu f) t h o >>= fun r => if chkA P all (putA t o.dst r.1) r.2 ck then runK P po f (.ops dr all l :: k) (putA t o.dst r.1) r.2 else none
  | .code c :: k =>
    match c with
    | .skip => runK P po f k t h
    | .label _ => runK P po f k t h
    | .seq a b => runK P po f (.code a :: .code b :: k) t h
    | .cond c x y => match evA t c with
      | .bool b => if b then runK P po f (.code x :: k) t h else runK P po f (.code y :: k) t h
      | _ => none
    | .block id b => runK P po f (.code b :: .inBlock id :: k) t h
    | .loop b => runK P po f (.code b :: .inLoop b :: k) (clearA (po.nv f) t) h
    | .exit id => exitA id k >>= fun k' => runK P po f k' t h
    | .ret => some (.ret, t, h)
    | .region id ops d => runK P po f (.ops d ops (planA d ops (po.plan f id)) :: k) t h
    | _ => none
partial_fixpoint

end Go.Proofs.YtngphebjmmencaaDoor
