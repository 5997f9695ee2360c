/- Functions as short lists of steps: what they do ('runR'), how they are made out of the program ('trFn'). No walk here. -/
import Derived.Test.YtacocolcighomaaSound17
namespace Go.Proofs.Ytacocolcighomaa
set_option linter.unusedSimpArgs false
set_option linter.unusedVariables false
open Go

/-- a variable, what was computed a little ahead, a constant -/
inductive Arg where
  | v (j : Nat)
  | l (i : Nat)
  | c (a : AV)

def arg (V L : List AV) : Arg → AV
  | .v j => V.getD j .junk
  | .l i => L.getD i .junk
  | .c a => a

inductive RO where
  | mv (x : Arg)
  | pick (c x y : Arg)
  | build (z : List AV) (pl : List (Nat × Nat)) (parts : List (Nat × Arg))
  | nilc (x : Arg)
  | bin (kd : Kd) (op : BinOp) (x y : Arg)
  | binG (kd : Kd) (ks : Option (List Kd)) (cy : Bool) (op : BinOp) (x y : Arg)
  | un (op : UnOp) (x : Arg)
  | conv (kd : Kd) (x : Arg)
  | mki (t : TypeId) (x : Arg)
  | mkf (g : FuncId) (first captured : List Arg)
  | slc (s : Bool) (e : Option TypeId) (x : Arg) (lo hi : Option Arg)
  | fad (off : Nat) (x : Arg)
  | fld (agg : Bool) (n off : Nat) (x : Arg)
  | ixa (e : Option TypeId) (ar : Option (Nat × Nat)) (x k : Arg)
  | ix (s : Bool) (ar : Option (Nat × Nat × Bool)) (x k : Arg)
  | tas (as : TypeId) (ok : Bool) (x : Arg)
  | ext (x : Arg) (i : Nat)
  | len (s : Bool) (e : Option TypeId) (x : Arg)
  | alloc (z : List AV)
  | box (n : Nat) (x : Arg)
  | bsl (mu : Bool) (e : TypeId) (z : List AV) (n len : Nat) (parts : List (Nat × Arg))
  | load (agg : Bool) (n : Nat) (x : Arg)
  | store (n : Nat) (a x : Arg)
  | mks (e : TypeId) (z : List AV) (l c : Arg)
  | app (mu : Bool) (e : TypeId) (x y : Arg)
  | call (f : Arg) (args : List Arg)

inductive RD where
  | l
  | v (j : Nat)
  | n

/-- a load that is looked at again -/
structure RCk where
  guard : Option (Arg × Bool)
  agg : Bool
  n : Nat
  a : Arg
  d : Arg

inductive RI where
  | i (d : RD) (o : RO)
  | g (a : Arg) (w : Bool) (d : RD) (o : RO)
  | ck (l : List RCk)

inductive RS where
  | ops (l : List RI)
  | cond (a : Arg) (x y : List RS)
  | block (id : Nat) (b : List RS)
  | loop (b : List RS)
  | exit (id : Nat)
  | ret

inductive RK where
  | ss (l : List RS)
  | ops (l : List RI)
  | blk (id : Nat)
  | lp (b : List RS)

inductive RRes where
  | v (j : Nat)
  | cell (agg : Bool) (n : Nat) (j : Nat)

/-! ### what they do -/
def ixaR (e : Option TypeId) (ar : Option (Nat × Nat)) (x k : AV) : Option AV :=
  match x, k with
  | .isl _ el es, .int _ k => if e = some el ∧ 0 ≤ k then (es[k.toNat]?).map fun e => .ip e 0 else none
  | .msl b o n el, .int _ k => if e = some el ∧ 0 ≤ k ∧ k < n then some (.ptr b (o + k.toNat) 0) else none
  | .ptr b i off, .int _ k => ar.bind fun q => if q.2 ≠ 0 ∧ 0 ≤ k ∧ k < q.1 then some (.ptr b i (off + k.toNat * q.2)) else none
  | .ip e off, .int _ k => ar.bind fun q => if q.2 ≠ 0 ∧ 0 ≤ k ∧ k < q.1 then some (.ip e (off + k.toNat * q.2)) else none
  | _, _ => none
def ixR (s : Bool) (ar : Option (Nat × Nat × Bool)) (x k : AV) : Option AV :=
  match x, k with
  | .str l, .int _ k => if s = true ∧ 0 ≤ k then (l[k.toNat]?).map fun c => .int .u8 c.toNat else none
  | .agg cs, .int _ k => ar.bind fun q => if q.2.1 ≠ 0 ∧ 0 ≤ k ∧ k < q.1 then ldA q.2.2 q.2.1 cs (k.toNat * q.2.1) else none
  | _, _ => none
def fitsR (s : Bool) (e : Option TypeId) : AV → Bool
  | .str _ => s
  | .isl _ el _ => e == some el
  | .msl _ _ _ el => e == some el
  | .nils => e.isSome
  | _ => false
def nilcR : AV → Option AV
  | .ptr b i off => some (.ptr b i off)
  | .ip e off => some (.ip e off)
  | .fn f a c => some (.fn f a c)
  | .iface q v => some (.iface q v)
  | _ => none
def isIf : Kd → Bool
  | .iface => true
  | _ => false
def binR (kd : Kd) (ks : Option (List Kd)) (cy : Bool) (op : BinOp) (x y : AV) : Option AV :=
  match x, y with
  | .nili, .nili => if isIf kd && cy then (match op with | .eql => some (.bool true) | .neq => some (.bool false) | _ => none) else none
  | .agg xs, .agg ys => ks.bind fun ks => match op with
    | .eql => (eqCells ks xs ys).map fun b => .bool b
    | .neq => (eqCells ks xs ys).map fun b => .bool !b
    | _ => none
  | a, b => binA kd op a b
def pickR (c x y : AV) : Option AV := match c with
  | .bool v => some (if v then x else y)
  | _ => none
def mkiR (t : TypeId) (x : AV) : Option AV := if x.one then some (.iface t x) else match x with
  | .agg cs => some (.iface t (.agg cs))
  | _ => none
def tasR (as : TypeId) (ok : Bool) : AV → Option AV
  | .iface q v => if q = as then some (if ok then .tup [v, .bool true] else v) else none
  | _ => none
def extR (x : AV) (i : Nat) : Option AV := match x with
  | .tup vs => vs[i]?
  | _ => none
def fldR (agg : Bool) (n off : Nat) : AV → Option AV
  | .agg cs => ldA agg n cs off
  | _ => none
def mksR (e : TypeId) (z : List AV) (l c : AV) (h : AH) : Option (AV × AH) := match l, c with
  | .int _ n, .int _ m => if 0 ≤ n ∧ n = m ∧ n ≤ 100000 then some (.msl h.n 0 n.toNat e, h.push (List.replicate n.toNat z)) else none
  | _, _ => none

def evalR (V L : List AV) (h : AH) : RO → Option (AV × AH)
  | .mv x => some (arg V L x, h)
  | .pick c x y => (pickR (arg V L c) (arg V L x) (arg V L y)).map fun v => (v, h)
  | .build z pl parts => (fillA pl z (parts.map fun q => (q.1, arg V L q.2))).map fun cs => (.agg cs, h)
  | .nilc x => (nilcR (arg V L x)).map fun v => (v, h)
  | .bin kd op x y => (binA kd op (arg V L x) (arg V L y)).map fun v => (v, h)
  | .binG kd ks cy op x y => (binR kd ks cy op (arg V L x) (arg V L y)).map fun v => (v, h)
  | .un op x => (unA op (arg V L x)).map fun v => (v, h)
  | .conv kd x => (cvA kd (arg V L x)).map fun v => (v, h)
  | .mki t x => (mkiR t (arg V L x)).map fun v => (v, h)
  | .mkf g first captured => some (.fn g (first.map (arg V L)) (captured.map (arg V L)), h)
  | .slc s e x lo hi => if fitsR s e (arg V L x) then (sliceA (arg V L x) (lo.map (arg V L)) (hi.map (arg V L))).map fun v => (v, h) else none
  | .fad off x => (fldA off (arg V L x)).map fun v => (v, h)
  | .fld agg n off x => (fldR agg n off (arg V L x)).map fun v => (v, h)
  | .ixa e ar x k => (ixaR e ar (arg V L x) (arg V L k)).map fun v => (v, h)
  | .ix s ar x k => (ixR s ar (arg V L x) (arg V L k)).map fun v => (v, h)
  | .tas as ok x => (tasR as ok (arg V L x)).map fun v => (v, h)
  | .ext x i => (extR (arg V L x) i).map fun v => (v, h)
  | .len s e x => if fitsR s e (arg V L x) then (lenA (arg V L x)).map fun (n : Nat) => (i64 n, h) else none
  | .alloc z => some (.ptr h.n 0 0, h.push [z])
  | .box n x => if (arg V L x).cells.all AV.one ∧ (arg V L x).cells.length = n then some (.ptr h.n 0 0, h.push [(arg V L x).cells]) else none
  | .bsl mu e z n len parts => (fillE n (List.replicate len z) (parts.map fun q => (q.1, arg V L q.2))).map fun es =>
        if mu then (.msl h.n 0 len e, h.push es) else (.isl (some h.ids) e es, h.fresh len)
  | .load agg n x => (loadA agg n h (arg V L x)).map fun v => (v, h)
  | .store n a x => (storeA n h (arg V L a) (arg V L x)).map fun h' => (.junk, h')
  | .mks e z l c => mksR e z (arg V L l) (arg V L c) h
  | .app mu e x y => appendA mu e (arg V L x) (arg V L y) h
  | .call _ _ => none

def guardR (V L : List AV) (a : Arg) (w : Bool) : Option Bool := match arg V L a with
  | .bool b => some (if w then b else !b)
  | .tup _ => some false
  | _ => none
def guardO (V L : List AV) : Option (Arg × Bool) → Option Bool
  | none => some true
  | some (a, w) => guardR V L a w
def chkR (V L : List AV) (h : AH) : List RCk → Prop
  | [] => True
  | q :: r => (match guardO V L q.guard with
      | some true => loadA q.agg q.n h (arg V L q.a) = some (arg V L q.d)
      | _ => True) ∧ chkR V L h r
def calleeR (V L : List AV) : RO → Option (FuncId × List AV)
  | .call f args => match arg V L f with
    | .fn g first captured => some (g, first ++ args.map (arg V L) ++ captured)
    | _ => none
  | _ => none

def putV (V : List AV) (v : AV) : RD → List AV
  | .v j => V.set j v
  | _ => V
def putL (L : List AV) (v : AV) : RD → List AV
  | .l => v :: L
  | _ => L

def exitR (id : Nat) : List RK → Option (List RK)
  | [] => none
  | .blk i :: k => if i = id then some k else exitR id k
  | _ :: k => exitR id k

open Classical in
noncomputable def runR (C : FuncId → List AV → AH → Option ((AV ⊕ AV) × AH)) (nv : Nat) (k : List RK) (V L : List AV) (h : AH) : Option (AEx × List AV × AH) :=
  match k with
  | [] => some (.ret, V, h)
  | .ss [] :: k => runR C nv k V L h
  | .ss (s :: l) :: k =>
    match s with
    | .ops is => runR C nv (.ops is :: .ss l :: k) V [] h
    | .cond a x y => match arg V [] a with
      | .bool b => if b then runR C nv (.ss x :: .ss l :: k) V [] h else runR C nv (.ss y :: .ss l :: k) V [] h
      | _ => none
    | .block id b => runR C nv (.ss b :: .blk id :: .ss l :: k) V L h
    | .loop b => runR C nv (.lp b :: .ss l :: k) V L h
    | .exit id => exitR id k >>= fun k' => runR C nv k' V L h
    | .ret => some (.ret, V, h)
  | .blk _ :: k => runR C nv k V L h
  | .lp b :: k => runR C nv (.ss b :: .lp b :: k) (clearA nv V) L h
  | .ops [] :: k => runR C nv k V [] h
  | .ops (.ck l :: is) :: k => if chkR V L h l then runR C nv (.ops is :: k) V L h else none
  | .ops (.i d o :: is) :: k =>
    match calleeR V L o with
    | some (g, args) => C g args h >>= fun r => match r.1 with
      | .inl v => runR C nv (.ops is :: k) (putV V v d) (putL L v d) r.2
      | .inr v => some (.panic v, V, r.2)
    | none => evalR V L h o >>= fun r => runR C nv (.ops is :: k) (putV V r.1 d) (putL L r.1 d) r.2
  | .ops (.g a w d o :: is) :: k =>
    match guardR V L a w with
    | none => none
    | some false => runR C nv (.ops is :: k) (putV V (.tup []) d) (putL L (.tup []) d) h
    | some true =>
      match calleeR V L o with
      | some (g, args) => C g args h >>= fun r => match r.1 with
        | .inl v => runR C nv (.ops is :: k) (putV V v d) (putL L v d) r.2
        | .inr v => some (.panic v, V, r.2)
      | none => evalR V L h o >>= fun r => runR C nv (.ops is :: k) (putV V r.1 d) (putL L r.1 d) r.2
partial_fixpoint

/-! ### how they are made -/
section
variable (P : Program)
def findI (l : List Nat) (i : Nat) : Option Nat := go l 0
where go : List Nat → Nat → Option Nat
  | [], _ => none
  | x :: l, n => if x = i then some n else go l (n + 1)

def trArg (vm lm : List Nat) : Operand → Option Arg
  | .tmp i => match findI lm i with
    | some k => some (.l k)
    | none => (findI vm i).map .v
  | .const v => some (.c (constA v))
  | .func f => some (.c (.fn f [] []))
  | .global _ => none
def trArgs (vm lm : List Nat) : List Operand → Option (List Arg)
  | [] => some []
  | x :: l => (trArg vm lm x).bind fun a => (trArgs vm lm l).map (a :: ·)
def trParts (vm lm : List Nat) : List (Nat × Operand) → Option (List (Nat × Arg))
  | [] => some []
  | x :: l => (trArg vm lm x.2).bind fun a => (trParts vm lm l).map ((x.1, a) :: ·)
def trOpt (vm lm : List Nat) : Option Operand → Option (Option Arg)
  | none => some none
  | some x => (trArg vm lm x).map some

def simpleK : Kd → Bool
  | .iface | .agg | .other => false
  | _ => true
def isC : Operand → Bool
  | .const _ => true
  | _ => false

def trOp (mu : TypeId → Bool) (vm lm : List Nat) (o : Oper) : Option RO :=
  let A := trArg vm lm
  match o.op with
  | .move x => (A x).map .mv
  | .assign x => (A x).map .mv
  | .pick c x y => (A c).bind fun c => (A x).bind fun x => (A y).map fun y => .pick c x y
  | .build ty parts => (zeroA P ty).bind fun z => (trParts vm lm parts.toList).bind fun ps => match fieldsA P ty with
    | some pl => if pl.all (fun q => szA P q.2 != 0) then some (.build z (pl.map fun q => (q.1, szA P q.2)) ps) else none
    | none => (arrA P ty).bind fun q => if szA P q.2 = 0 then none else some (.build z ((List.range q.1).map fun i => (i * szA P q.2, szA P q.2)) ps)
  | .nilCheck x => (A x).map .nilc
  | .binOp op ty x y _ => (A x).bind fun x' => (A y).map fun y' => if simpleK (kindA P ty) then .bin (kindA P ty) op x' y' else .binG (kindA P ty) (flatK P ty) (isC y) op x' y'
  | .unOp op _ x => (A x).map (.un op)
  | .convert src dst x => if (P.underlying src).isNone then none else (A x).map (.conv (kindA P dst))
  | .makeInterface ty x => if plainT P ty = false then none else (A x).map (.mki ty)
  | .makeFunc f first captured => match f with
    | .func g => (trArgs vm lm first.toList).bind fun a => (trArgs vm lm captured.toList).map fun c => .mkf g a c
    | _ => none
  | .slice ty x lo hi mx => if mx.isSome then none else (A x).bind fun x => (trOpt vm lm lo).bind fun lo => (trOpt vm lm hi).map fun hi => .slc (isStrT P ty) (elemA P ty) x lo hi
  | .fieldAddr s x f => ((fieldsA P s).bind (·[f]?)).bind fun q => if szA P q.2 = 0 then none else (A x).map (.fad q.1)
  | .field s x f => ((fieldsA P s).bind (·[f]?)).bind fun q => if szA P q.2 = 0 ∨ (P.underlying q.2).isNone then none else (A x).map (.fld (aggA P q.2) (szA P q.2) q.1)
  | .indexAddr ty x ix => (A x).bind fun x => (A ix).map fun k => .ixa (elemA P ty) ((arrA P ty).map fun q => (q.1, szA P q.2)) x k
  | .index ty x ix => (A x).bind fun x => (A ix).map fun k => .ix (isStrT P ty) ((arrA P ty).bind fun q => if (P.underlying q.2).isSome then some (q.1, szA P q.2, aggA P q.2) else none) x k
  | .typeAssert x _ as ok => if plainT P as = true then (A x).map (.tas as ok) else none
  | .extract x i => (A x).map fun x => .ext x i
  | .call { callee := .builtin .len, args, argTypes } => match args.toList, argTypes.toList with
    | [x], ty :: _ => (A x).map (.len (isStrT P ty) (elemA P ty))
    | _, _ => none
  | .alloc e => (zeroA P e).map .alloc
  | .box e x => (A x).map (.box (szA P e))
  | .buildSlice ty len parts => (elemA P ty).bind fun e => (zeroA P e).bind fun z => if len * szA P e ≤ 16777216 then (trParts vm lm parts.toList).map (.bsl (mu ty) e z (szA P e) len) else none
  | .load ty a => if (P.underlying ty).isNone then none else (A a).map (.load (aggA P ty) (szA P ty))
  | .store ty a x => if szA P ty = 0 then none else (A a).bind fun a => (A x).map (.store (szA P ty) a)
  | .makeSlice ty l c => (elemA P ty).bind fun e => (zeroA P e).bind fun z => (A l).bind fun l => (A c).map fun c => .mks e z l c
  | .call { callee := .builtin .append, args, argTypes } => match args.toList, argTypes.toList with
    | [x, y], [ty, ty'] => if ty = ty' then (elemA P ty).bind fun e => if (zeroA P e).isSome then (A x).bind fun x => (A y).map fun y => .app (mu ty) e x y else none else none
    | _, _ => none
  | .call { callee := .value f, args, .. } => (A f).bind fun f => (trArgs vm lm args.toList).map (.call f)
  | _ => none

def trGuard (vm lm : List Nat) (all : Array Oper) (o : Oper) : Option (Option (Arg × Bool)) :=
  match o.guard with
  | none => some none
  | some (j, want) => ((all[j]?).bind (·.dst)).bind fun d => (trArg vm lm (.tmp d)).map fun a => some (a, want)
def trCk (vm lm : List Nat) (all : Array Oper) (o : Oper) : Option RCk :=
  match o.op, o.dst with
  | .load ty a, some d => (trGuard vm lm all o).bind fun g => (trArg vm lm a).bind fun a => (trArg vm lm (.tmp d)).map fun d => ⟨g, aggA P ty, szA P ty, a, d⟩
  | _, _ => none
def trCks (vm lm : List Nat) (all : Array Oper) : List Oper → Option (List RCk)
  | [] => some []
  | o :: l => (trCk P vm lm all o).bind fun q => (trCks vm lm all l).map (q :: ·)
def trDst (n : Nat) (vm lm : List Nat) : Option Tmp → Option (RD × List Nat)
  | none => some (.n, lm)
  | some d => if n ≤ d ∨ (findI lm d).isSome then none else match findI vm d with
    | some j => some (.v j, lm)
    | none => some (.l, d :: lm)
def mkRI (g : Option (Arg × Bool)) (d : RD) (r : RO) : RI := match g with
  | none => .i d r
  | some (a, w) => .g a w d r
def addCk (c : List RCk) (is : List RI) : List RI := match c with
  | [] => is
  | q :: c => .ck (q :: c) :: is
def trOps (mu : TypeId → Bool) (n : Nat) (vm : List Nat) (all : Array Oper) : List Nat → List (Oper × List Oper) → Option (List RI)
  | _, [] => some []
  | lm, (o, ck) :: l => (trOp P mu vm lm o).bind fun r => (trGuard vm lm all o).bind fun g => (trDst n vm lm o.dst).bind fun d => (trCks P vm d.2 all ck).bind fun c => (trOps mu n vm all d.2 l).map fun is =>
    mkRI g d.1 r :: addCk c is
def trCode (mu : TypeId → Bool) (plan : Nat → List (Nat × List Nat)) (n : Nat) (vm : List Nat) : Code → List RS → Option (List RS)
  | .skip, r => some r
  | .label _, r => some r
  | .seq a b, r => (trCode mu plan n vm b r).bind fun r => trCode mu plan n vm a r
  | .cond c x y, r => (trArg vm [] c).bind fun c => (trCode mu plan n vm x []).bind fun x => (trCode mu plan n vm y []).map fun y => .cond c x y :: r
  | .block id b, r => (trCode mu plan n vm b []).map fun b => .block id b :: r
  | .loop b, r => (trCode mu plan n vm b []).map fun b => .loop b :: r
  | .exit id, r => some (.exit id :: r)
  | .ret, r => some (.ret :: r)
  | .region id ops d, r => (trOps P mu n vm ops [] (planA d ops (plan id))).map fun is => .ops is :: r
  | _, _ => none
def trRes (vm : List Nat) : List ResultVar → Option (List RRes)
  | [] => some []
  | .tmp i :: l => (findI vm i).bind fun j => (trRes vm l).map (.v j :: ·)
  | .cell i ty :: l => if (P.underlying ty).isNone then none else (findI vm i).bind fun j => (trRes vm l).map (.cell (aggA P ty) (szA P ty) j :: ·)
end

def resR (V : List AV) (h : AH) : List RRes → Option (List AV)
  | [] => some []
  | .v j :: rs => (resR V h rs).map fun l => V.getD j .junk :: l
  | .cell agg n j :: rs => (loadA agg n h (V.getD j .junk)).bind fun v => (resR V h rs).map fun l => v :: l

end Go.Proofs.Ytacocolcighomaa
