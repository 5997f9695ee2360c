/- Functions as short lists of steps: what they do ('runR'), how they are made out of the program ('trFn'). No walk here. What a short list of steps does the function does. What a list of steps comes to the function comes to. What a list of steps comes to the function comes to: the proof. -/
import Derived.Test.YtngphebjmmencaaDoorSound17
namespace Go.Proofs.YtngphebjmmencaaDoor
set_option linter.unusedSimpArgs false
set_option linter.unusedVariables false
open Go

/-- a variable, what was computed a little ahead, a constant -/
inductive Arg where
  | v (j : Nat)
  | l (i : Nat)
  | c (a : AV)

def arg (V L : List AV) : Arg → AV
  | .v j => V.getD j .junk
  | .l i => L.getD i .junk
  | .c a => a

inductive RO where
  | mv (x : Arg)
  | pick (c x y : Arg)
  | build (z : List AV) (pl : List (Nat × Nat)) (parts : List (Nat × Arg))
  | nilc (x : Arg)
  | bin (kd : Kd) (op : BinOp) (x y : Arg)
  | binG (kd : Kd) (ks : Option (List Kd)) (cy : Bool) (op : BinOp) (x y : Arg)
  | un (op : UnOp) (x : Arg)
  | conv (kd : Kd) (x : Arg)
  | mki (t : TypeId) (x : Arg)
  | mkf (g : FuncId) (first captured : List Arg)
  | slc (s : Bool) (e : Option TypeId) (x : Arg) (lo hi : Option Arg)
  | fad (off : Nat) (x : Arg)
  | fld (agg : Bool) (n off : Nat) (x : Arg)
  | ixa (e : Option TypeId) (ar : Option (Nat × Nat)) (x k : Arg)
  | ix (s : Bool) (ar : Option (Nat × Nat × Bool)) (x k : Arg)
  | tas (as : TypeId) (ok : Bool) (x : Arg)
  | ext (x : Arg) (i : Nat)
  | len (s : Bool) (e : Option TypeId) (x : Arg)
  | alloc (z : List AV)
  | talloc (t : TypeId) (z : List AV)
  | mm (mx : Bool) (x y : Arg)
  | box (n : Nat) (x : Arg)
  | tbox (t : TypeId) (n : Nat) (x : Arg)
  | bsl (mu : Bool) (e : TypeId) (z : List AV) (n len : Nat) (parts : List (Nat × Arg))
  | load (agg : Bool) (n : Nat) (x : Arg)
  | store (n : Nat) (a x : Arg)
  | mks (e : TypeId) (z : List AV) (l c : Arg)
  | app (mu : Bool) (e : TypeId) (x y : Arg)
  | apps (mu : Bool) (e : TypeId) (x y : Arg)
  | call (f : Arg) (args : List Arg)
  | pan (x : Arg)

inductive RD where
  | l
  | v (j : Nat)
  | n

/-- a load that is looked at again -/
structure RCk where
  guard : Option (Arg × Bool)
  agg : Bool
  n : Nat
  a : Arg
  d : Arg

inductive RI where
  | i (d : RD) (o : RO)
  | g (a : Arg) (w : Bool) (d : RD) (o : RO)
  | ck (l : List RCk)

inductive RS where
  | ops (l : List RI)
  | cond (a : Arg) (x y : List RS)
  | block (id : Nat) (b : List RS)
  | loop (b : List RS)
  | exit (id : Nat)
  | ret

inductive RK where
  | ss (l : List RS)
  | ops (l : List RI)
  | blk (id : Nat)
  | lp (b : List RS)
  | halt (K : List Item)

inductive RRes where
  | v (j : Nat)
  | cell (agg : Bool) (n : Nat) (j : Nat)

/-! ### what they do -/
def ixaR (e : Option TypeId) (ar : Option (Nat × Nat)) (x k : AV) : Option AV :=
  match x, k with
  | .isl _ el es, .int _ k => if e = some el ∧ 0 ≤ k then (es[k.toNat]?).map fun e => .ip e 0 else none
  | .msl b o n el, .int _ k => if e = some el ∧ 0 ≤ k ∧ k < n then some (.ptr b (o + k.toNat) 0) else none
  | .ptr b i off, .int _ k => ar.bind fun q => if q.2 ≠ 0 ∧ 0 ≤ k ∧ k < q.1 then some (.ptr b i (off + k.toNat * q.2)) else none
  | .ip e off, .int _ k => ar.bind fun q => if q.2 ≠ 0 ∧ 0 ≤ k ∧ k < q.1 then some (.ip e (off + k.toNat * q.2)) else none
  | _, _ => none
def ixR (s : Bool) (ar : Option (Nat × Nat × Bool)) (x k : AV) : Option AV :=
  match x, k with
  | .str l, .int _ k => if s = true ∧ 0 ≤ k then (l[k.toNat]?).map fun c => .int .u8 c.toNat else none
  | .agg cs, .int _ k => ar.bind fun q => if q.2.1 ≠ 0 ∧ 0 ≤ k ∧ k < q.1 then ldA q.2.2 q.2.1 cs (k.toNat * q.2.1) else none
  | _, _ => none
def fitsR (s : Bool) (e : Option TypeId) : AV → Bool
  | .str _ => s
  | .isl _ el _ => e == some el
  | .msl _ _ _ el => e == some el
  | .nils => e.isSome
  | _ => false
def nilcR : AV → Option AV
  | .ptr b i off => some (.ptr b i off)
  | .tptr t b => some (.tptr t b)
  | .ip e off => some (.ip e off)
  | .fn f a c => some (.fn f a c)
  | .iface q v => some (.iface q v)
  | _ => none
def isIf : Kd → Bool
  | .iface => true
  | _ => false
def binR (kd : Kd) (ks : Option (List Kd)) (cy : Bool) (op : BinOp) (x y : AV) : Option AV :=
  match x, y with
  | .nili, .nili => if isIf kd && cy then (match op with | .eql => some (.bool true) | .neq => some (.bool false) | _ => none) else none
  | .agg xs, .agg ys => ks.bind fun ks => match op with
    | .eql => (eqCells ks xs ys).map fun b => .bool b
    | .neq => (eqCells ks xs ys).map fun b => .bool !b
    | _ => none
  | a, b => binA kd op a b
def pickR (c x y : AV) : Option AV := match c with
  | .bool v => some (if v then x else y)
  | _ => none
def mkiR (t : TypeId) (x : AV) : Option AV := if x.one then some (.iface t x) else match x with
  | .agg cs => some (.iface t (.agg cs))
  | _ => none
def tasR (as : TypeId) (ok : Bool) : AV → Option AV
  | .iface q v => if q = as then some (if ok then .tup [v, .bool true] else v) else none
  | _ => none
def extR (x : AV) (i : Nat) : Option AV := match x with
  | .tup vs => vs[i]?
  | _ => none
def fldR (agg : Bool) (n off : Nat) : AV → Option AV
  | .agg cs => ldA agg n cs off
  | _ => none
def mksR (e : TypeId) (z : List AV) (l c : AV) (h : AH) : Option (AV × AH) := match l, c with
  | .int _ n, .int _ m => if 0 ≤ n ∧ n = m ∧ n ≤ 100000 then some (.msl h.n 0 n.toNat e, h.push (List.replicate n.toNat z)) else none
  | _, _ => none

def evalR (V L : List AV) (h : AH) : RO → Option (AV × AH)
  | .mv x => some (arg V L x, h)
  | .pick c x y => (pickR (arg V L c) (arg V L x) (arg V L y)).map fun v => (v, h)
  | .build z pl parts => (fillA pl z (parts.map fun q => (q.1, arg V L q.2))).map fun cs => (.agg cs, h)
  | .nilc x => (nilcR (arg V L x)).map fun v => (v, h)
  | .bin kd op x y => (binA kd op (arg V L x) (arg V L y)).map fun v => (v, h)
  | .binG kd ks cy op x y => (binR kd ks cy op (arg V L x) (arg V L y)).map fun v => (v, h)
  | .un op x => (unA op (arg V L x)).map fun v => (v, h)
  | .conv kd x => (cvA kd (arg V L x)).map fun v => (v, h)
  | .mki t x => (mkiR t (arg V L x)).map fun v => (v, h)
  | .mkf g first captured => some (.fn g (first.map (arg V L)) (captured.map (arg V L)), h)
  | .slc s e x lo hi => if fitsR s e (arg V L x) then (sliceA (arg V L x) (lo.map (arg V L)) (hi.map (arg V L))).map fun v => (v, h) else none
  | .fad off x => (fldA off (arg V L x)).map fun v => (v, h)
  | .fld agg n off x => (fldR agg n off (arg V L x)).map fun v => (v, h)
  | .ixa e ar x k => (ixaR e ar (arg V L x) (arg V L k)).map fun v => (v, h)
  | .ix s ar x k => (ixR s ar (arg V L x) (arg V L k)).map fun v => (v, h)
  | .tas as ok x => (tasR as ok (arg V L x)).map fun v => (v, h)
  | .ext x i => (extR (arg V L x) i).map fun v => (v, h)
  | .len s e x => if fitsR s e (arg V L x) then (lenA (arg V L x)).map fun (n : Nat) => (i64 n, h) else none
  | .alloc z => some (.ptr h.n 0 0, h.push [z])
  | .talloc t z => some (.tptr t h.n, h.push [z])
  | .mm mx x y => (mmA mx (arg V L x) (arg V L y)).map fun v => (v, h)
  | .box n x => if (arg V L x).cells.all AV.one ∧ (arg V L x).cells.length = n then some (.ptr h.n 0 0, h.push [(arg V L x).cells]) else none
  | .tbox t n x => if (arg V L x).cells.all AV.one ∧ (arg V L x).cells.length = n then some (.tptr t h.n, h.push [(arg V L x).cells]) else none
  | .bsl mu e z n len parts => (fillE n (List.replicate len z) (parts.map fun q => (q.1, arg V L q.2))).map fun es =>
        if mu then (.msl h.n 0 len e, h.push es) else (.isl (some h.ids) e es, h.fresh len)
  | .load agg n x => (loadA agg n h (arg V L x)).map fun v => (v, h)
  | .store n a x => (storeA n h (arg V L a) (arg V L x)).map fun h' => (.junk, h')
  | .mks e z l c => mksR e z (arg V L l) (arg V L c) h
  | .app mu e x y => appendA mu e (arg V L x) (arg V L y) h
  | .apps mu e x y => appendS mu e (arg V L x) (arg V L y) h
  | .call _ _ => none
  | .pan _ => none

def guardR (V L : List AV) (a : Arg) (w : Bool) : Option Bool := match arg V L a with
  | .bool b => some (if w then b else !b)
  | .tup _ => some false
  | _ => none
def guardO (V L : List AV) : Option (Arg × Bool) → Option Bool
  | none => some true
  | some (a, w) => guardR V L a w
def chkR (V L : List AV) (h : AH) : List RCk → Prop
  | [] => True
  | q :: r => (match guardO V L q.guard with
      | some true => loadA q.agg q.n h (arg V L q.a) = some (arg V L q.d)
      | _ => True) ∧ chkR V L h r
def calleeR (V L : List AV) : RO → Option (FuncId × List AV)
  | .call f args => match arg V L f with
    | .fn g first captured => some (g, first ++ args.map (arg V L) ++ captured)
    | _ => none
  | _ => none

def panR (V L : List AV) : RO → Option AV
  | .pan x => match arg V L x with
    | .iface q v => some (.iface q v)
    | _ => none
  | _ => none

def putV (V : List AV) (v : AV) : RD → List AV
  | .v j => V.set j v
  | _ => V
def putL (L : List AV) (v : AV) : RD → List AV
  | .l => v :: L
  | _ => L

def exitR (id : Nat) : List RK → Option (List RK)
  | [] => none
  | .blk i :: k => if i = id then some k else exitR id k
  | .halt _ :: _ => none
  | _ :: k => exitR id k

open Classical in
noncomputable def runR (C : FuncId → List AV → AH → Option ((AV ⊕ AV) × AH)) (nv : Nat) (k : List RK) (V L : List AV) (h : AH) : Option (AEx × List AV × AH) :=
  match k with
  | [] => some (.ret, V, h)
  | .ss [] :: k => runR C nv k V L h
  | .ss (s :: l) :: k =>
    match s with
    | .ops is => runR C nv (.ops is :: .ss l :: k) V [] h
    | .cond a x y => match arg V [] a with
      | .bool b => if b then runR C nv (.ss x :: .ss l :: k) V [] h else runR C nv (.ss y :: .ss l :: k) V [] h
      | _ => none
    | .block id b => runR C nv (.ss b :: .blk id :: .ss l :: k) V L h
    | .loop b => runR C nv (.lp b :: .ss l :: k) V L h
    | .exit id => exitR id k >>= fun k' => runR C nv k' V L h
    | .ret => some (.ret, V, h)
  | .blk _ :: k => runR C nv k V L h
  | .halt K :: _ => some (.halt K, V, h)
  | .lp b :: k => runR C nv (.ss b :: .lp b :: k) (clearA nv V) L h
  | .ops [] :: k => runR C nv k V [] h
  | .ops (.ck l :: is) :: k => if chkR V L h l then runR C nv (.ops is :: k) V L h else none
  | .ops (.i d o :: is) :: k =>
   match panR V L o with
   | some v => some (.panic v, V, h)
   | none =>
    match calleeR V L o with
    | some (g, args) => C g args h >>= fun r => match r.1 with
      | .inl v => runR C nv (.ops is :: k) (putV V v d) (putL L v d) r.2
      | .inr v => some (.panic v, V, r.2)
    | none => evalR V L h o >>= fun r => runR C nv (.ops is :: k) (putV V r.1 d) (putL L r.1 d) r.2
  | .ops (.g a w d o :: is) :: k =>
    match guardR V L a w with
    | none => none
    | some false => runR C nv (.ops is :: k) (putV V (.tup []) d) (putL L (.tup []) d) h
    | some true =>
     match panR V L o with
     | some v => some (.panic v, V, h)
     | none =>
      match calleeR V L o with
      | some (g, args) => C g args h >>= fun r => match r.1 with
        | .inl v => runR C nv (.ops is :: k) (putV V v d) (putL L v d) r.2
        | .inr v => some (.panic v, V, r.2)
      | none => evalR V L h o >>= fun r => runR C nv (.ops is :: k) (putV V r.1 d) (putL L r.1 d) r.2
partial_fixpoint

/-! ### how they are made -/
section
variable (P : Program)
def findI (l : List Nat) (i : Nat) : Option Nat := go l 0
where go : List Nat → Nat → Option Nat
  | [], _ => none
  | x :: l, n => if x = i then some n else go l (n + 1)

def trArg (vm lm : List Nat) : Operand → Option Arg
  | .tmp i => match findI lm i with
    | some k => some (.l k)
    | none => (findI vm i).map .v
  | .const v => some (.c (constA v))
  | .func f => some (.c (.fn f [] []))
  | .global _ => none
def trArgs (vm lm : List Nat) : List Operand → Option (List Arg)
  | [] => some []
  | x :: l => (trArg vm lm x).bind fun a => (trArgs vm lm l).map (a :: ·)
def trParts (vm lm : List Nat) : List (Nat × Operand) → Option (List (Nat × Arg))
  | [] => some []
  | x :: l => (trArg vm lm x.2).bind fun a => (trParts vm lm l).map ((x.1, a) :: ·)
def trOpt (vm lm : List Nat) : Option Operand → Option (Option Arg)
  | none => some none
  | some x => (trArg vm lm x).map some

def simpleK : Kd → Bool
  | .iface | .agg | .other => false
  | _ => true
def isC : Operand → Bool
  | .const _ => true
  | _ => false

def trOp (mu : TypeId → Bool) (vm lm : List Nat) (o : Oper) : Option RO :=
  let A := trArg vm lm
  match o.op with
  | .move x => (A x).map .mv
  | .assign x => (A x).map .mv
  | .pick c x y => (A c).bind fun c => (A x).bind fun x => (A y).map fun y => .pick c x y
  | .build ty parts => (zeroA P ty).bind fun z => (trParts vm lm parts.toList).bind fun ps => match fieldsA P ty with
    | some pl => if pl.all (fun q => szA P q.2 != 0) then some (.build z (pl.map fun q => (q.1, szA P q.2)) ps) else none
    | none => (arrA P ty).bind fun q => if szA P q.2 = 0 then none else some (.build z ((List.range q.1).map fun i => (i * szA P q.2, szA P q.2)) ps)
  | .nilCheck x => (A x).map .nilc
  | .binOp op ty x y _ => (A x).bind fun x' => (A y).map fun y' => if simpleK (kindA P ty) then .bin (kindA P ty) op x' y' else .binG (kindA P ty) (flatK P ty) (isC y) op x' y'
  | .unOp op _ x => (A x).map (.un op)
  | .convert src dst x => if (P.underlying src).isNone then none else (A x).map (.conv (kindA P dst))
  | .makeInterface ty x => if plainT P ty = false then none else (A x).map (.mki ty)
  | .makeFunc f first captured => match f with
    | .func g => (trArgs vm lm first.toList).bind fun a => (trArgs vm lm captured.toList).map fun c => .mkf g a c
    | _ => none
  | .slice ty x lo hi mx => if mx.isSome then none else (A x).bind fun x => (trOpt vm lm lo).bind fun lo => (trOpt vm lm hi).map fun hi => .slc (isStrT P ty) (elemA P ty) x lo hi
  | .fieldAddr s x f => ((fieldsA P s).bind (·[f]?)).bind fun q => if szA P q.2 = 0 then none else (A x).map (.fad q.1)
  | .field s x f => ((fieldsA P s).bind (·[f]?)).bind fun q => if szA P q.2 = 0 ∨ (P.underlying q.2).isNone then none else (A x).map (.fld (aggA P q.2) (szA P q.2) q.1)
  | .indexAddr ty x ix => (A x).bind fun x => (A ix).map fun k => .ixa (elemA P ty) ((arrA P ty).map fun q => (q.1, szA P q.2)) x k
  | .index ty x ix => (A x).bind fun x => (A ix).map fun k => .ix (isStrT P ty) ((arrA P ty).bind fun q => if (P.underlying q.2).isSome then some (q.1, szA P q.2, aggA P q.2) else none) x k
  | .typeAssert x _ as ok => if plainT P as = true then (A x).map (.tas as ok) else none
  | .extract x i => (A x).map fun x => .ext x i
  | .call { callee := .builtin .len, args, argTypes } => match args.toList, argTypes.toList with
    | [x], ty :: _ => (A x).map (.len (isStrT P ty) (elemA P ty))
    | _, _ => none
  | .alloc e => (zeroA P e).map fun z => if mu e then .talloc e z else .alloc z
  | .box e x => (A x).map fun x => if mu e then .tbox e (szA P e) x else .box (szA P e) x
  | .buildSlice ty len parts => (elemA P ty).bind fun e => (zeroA P e).bind fun z => if len * szA P e ≤ 16777216 then (trParts vm lm parts.toList).map (.bsl (mu ty) e z (szA P e) len) else none
  | .load ty a => if (P.underlying ty).isNone then none else (A a).map (.load (aggA P ty) (szA P ty))
  | .store ty a x => if szA P ty = 0 then none else (A a).bind fun a => (A x).map (.store (szA P ty) a)
  | .makeSlice ty l c => (elemA P ty).bind fun e => (zeroA P e).bind fun z => (A l).bind fun l => (A c).map fun c => .mks e z l c
  | .call { callee := .builtin .append, args, argTypes } => match args.toList, argTypes.toList with
    | [x, y], [ty, ty'] => if ty = ty' then (elemA P ty).bind fun e => if (zeroA P e).isSome then (A x).bind fun x => (A y).map fun y => .app (mu ty) e x y else none
      else if isStrT P ty' then (elemA P ty).bind fun e => if u8OK P e then (A x).bind fun x => (A y).map fun y => .apps (mu ty) e x y else none else none
    | _, _ => none
  | .call { callee := .value f, args, .. } => (A f).bind fun f => (trArgs vm lm args.toList).map (.call f)
  | .panic x => (A x).map .pan
  | .call { callee := .builtin .min, args, .. } => match args.toList with
    | [x, y] => (A x).bind fun x => (A y).map (.mm false x)
    | _ => none
  | .call { callee := .builtin .max, args, .. } => match args.toList with
    | [x, y] => (A x).bind fun x => (A y).map (.mm true x)
    | _ => none
  | _ => none

def trGuard (vm lm : List Nat) (all : Array Oper) (o : Oper) : Option (Option (Arg × Bool)) :=
  match o.guard with
  | none => some none
  | some (j, want) => ((all[j]?).bind (·.dst)).bind fun d => (trArg vm lm (.tmp d)).map fun a => some (a, want)
def trCk (vm lm : List Nat) (all : Array Oper) (o : Oper) : Option RCk :=
  match o.op, o.dst with
  | .load ty a, some d => (trGuard vm lm all o).bind fun g => (trArg vm lm a).bind fun a => (trArg vm lm (.tmp d)).map fun d => ⟨g, aggA P ty, szA P ty, a, d⟩
  | _, _ => none
def trCks (vm lm : List Nat) (all : Array Oper) : List Oper → Option (List RCk)
  | [] => some []
  | o :: l => (trCk P vm lm all o).bind fun q => (trCks vm lm all l).map (q :: ·)
def trDst (n : Nat) (vm lm : List Nat) : Option Tmp → Option (RD × List Nat)
  | none => some (.n, lm)
  | some d => if n ≤ d ∨ (findI lm d).isSome then none else match findI vm d with
    | some j => some (.v j, lm)
    | none => some (.l, d :: lm)
def mkRI (g : Option (Arg × Bool)) (d : RD) (r : RO) : RI := match g with
  | none => .i d r
  | some (a, w) => .g a w d r
def addCk (c : List RCk) (is : List RI) : List RI := match c with
  | [] => is
  | q :: c => .ck (q :: c) :: is
def trOps (mu : TypeId → Bool) (n : Nat) (vm : List Nat) (all : Array Oper) : List Nat → List (Oper × List Oper) → Option (List RI)
  | _, [] => some []
  | lm, (o, ck) :: l => (trOp P mu vm lm o).bind fun r => (trGuard vm lm all o).bind fun g => (trDst n vm lm o.dst).bind fun d => (trCks P vm d.2 all ck).bind fun c => (trOps mu n vm all d.2 l).map fun is =>
    mkRI g d.1 r :: addCk c is
def trCode (mu : TypeId → Bool) (plan : Nat → List (Nat × List Nat)) (n : Nat) (vm : List Nat) : Code → List RS → Option (List RS)
  | .skip, r => some r
  | .label _, r => some r
  | .seq a b, r => (trCode mu plan n vm b r).bind fun r => trCode mu plan n vm a r
  | .cond c x y, r => (trArg vm [] c).bind fun c => (trCode mu plan n vm x []).bind fun x => (trCode mu plan n vm y []).map fun y => .cond c x y :: r
  | .block id b, r => (trCode mu plan n vm b []).map fun b => .block id b :: r
  | .loop b, r => (trCode mu plan n vm b []).map fun b => .loop b :: r
  | .exit id, r => some (.exit id :: r)
  | .ret, r => some (.ret :: r)
  | .region id ops d, r => (trOps P mu n vm ops [] (planA d ops (plan id))).map fun is => .ops is :: r
  | _, _ => none
def trRes (vm : List Nat) : List ResultVar → Option (List RRes)
  | [] => some []
  | .tmp i :: l => (findI vm i).bind fun j => (trRes vm l).map (.v j :: ·)
  | .cell i ty :: l => if (P.underlying ty).isNone then none else (findI vm i).bind fun j => (trRes vm l).map (.cell (aggA P ty) (szA P ty) j :: ·)
end

def resR (V : List AV) (h : AH) : List RRes → Option (List AV)
  | [] => some []
  | .v j :: rs => (resR V h rs).map fun l => V.getD j .junk :: l
  | .cell agg n j :: rs => (loadA agg n h (V.getD j .junk)).bind fun v => (resR V h rs).map fun l => v :: l

end Go.Proofs.YtngphebjmmencaaDoor
namespace Go.Proofs.YtngphebjmmencaaDoor
set_option linter.unusedSimpArgs false
set_option linter.unusedVariables false
open Go

structure RV (n : Nat) (vm lm : List Nat) (t V L : List AV) : Prop where
  len : t.length = n
  lv : V.length = vm.length
  ll : L.length = lm.length
  v : ∀ j s, vm[j]? = some s → s < n ∧ t.getD s .junk = V.getD j .junk
  l : ∀ j s, lm[j]? = some s → s < n ∧ t.getD s .junk = L.getD j .junk

section
variable {P : Program} {po : Pol} {f : FuncId} {n : Nat} {vm lm : List Nat} {t V L : List AV} {h : AH} {mu : TypeId → Bool}

theorem findI_go {i : Nat} : ∀ (l : List Nat) (m k : Nat), findI.go i l m = some k → m ≤ k ∧ l[k - m]? = some i
  | [], m, k, he => by simp [findI.go] at he
  | x :: l, m, k, he => by
    simp only [findI.go] at he
    split at he
    · rename_i hx
      injection he with he
      subst he
      exact ⟨Nat.le_refl _, by simp [hx]⟩
    · obtain ⟨h1, h2⟩ := findI_go l (m + 1) k he
      refine ⟨by omega, ?_⟩
      rw [show k - m = (k - (m + 1)) + 1 by omega, List.getElem?_cons_succ]
      exact h2
theorem findI_get {l : List Nat} {i k : Nat} (he : findI l i = some k) : l[k]? = some i := by simpa using (findI_go l 0 k he).2
theorem findI_none {i : Nat} : ∀ (l : List Nat) (m : Nat), findI.go i l m = none → i ∉ l
  | [], m, _ => by simp
  | x :: l, m, he => by
    simp only [findI.go] at he
    split at he
    · cases he
    · rename_i hx
      have := findI_none l (m + 1) he
      simp only [List.mem_cons, not_or]
      exact ⟨fun e => hx e.symm, this⟩

theorem trArg_sound (r : RV n vm lm t V L) {x : Operand} {a : Arg} (he : trArg vm lm x = some a) : evA t x = arg V L a := by
  cases x with
  | tmp i =>
    simp only [trArg] at he
    split at he
    · rename_i k hk
      injection he with he
      subst he
      exact (r.l k i (findI_get hk)).2
    · obtain ⟨j, hj, rfl⟩ := Option.map_eq_some_iff.1 he
      exact (r.v j i (findI_get hj)).2
  | const v => simp only [trArg, Option.some.injEq] at he; subst he; rfl
  | func g => simp only [trArg, Option.some.injEq] at he; subst he; rfl
  | global g => simp [trArg] at he
theorem trArgs_sound (r : RV n vm lm t V L) : ∀ {xs : List Operand} {as : List Arg}, trArgs vm lm xs = some as → xs.map (evA t) = as.map (arg V L)
  | [], as, he => by simp [trArgs] at he; subst he; rfl
  | x :: xs, as, he => by
    simp only [trArgs] at he
    obtain ⟨a, ha, he⟩ := Option.bind_eq_some_iff.1 he
    obtain ⟨as', has, rfl⟩ := Option.map_eq_some_iff.1 he
    simp [trArg_sound r ha, trArgs_sound r has]
theorem trParts_sound (r : RV n vm lm t V L) : ∀ {xs : List (Nat × Operand)} {as : List (Nat × Arg)}, trParts vm lm xs = some as → (xs.map fun q => (q.1, evA t q.2)) = as.map fun q => (q.1, arg V L q.2)
  | [], as, he => by simp [trParts] at he; subst he; rfl
  | x :: xs, as, he => by
    simp only [trParts] at he
    obtain ⟨a, ha, he⟩ := Option.bind_eq_some_iff.1 he
    obtain ⟨as', has, rfl⟩ := Option.map_eq_some_iff.1 he
    simp [trArg_sound r ha, trParts_sound r has]
theorem trOpt_sound (r : RV n vm lm t V L) {x : Option Operand} {a : Option Arg} (he : trOpt vm lm x = some a) : x.map (evA t) = a.map (arg V L) := by
  cases x with
  | none => simp [trOpt] at he; subst he; rfl
  | some x =>
    simp only [trOpt] at he
    obtain ⟨a, ha, rfl⟩ := Option.map_eq_some_iff.1 he
    simp [trArg_sound r ha]

theorem fits_eq (P : Program) (ty : TypeId) (x : AV) : fitsT P ty x = fitsR (isStrT P ty) (elemA P ty) x := by
  cases x <;> rfl
theorem ixa_eq (P : Program) (ty : TypeId) (x k : AV) : ixAddrA P ty x k = ixaR (elemA P ty) ((arrA P ty).map fun q => (q.1, szA P q.2)) x k := by
  cases x <;> cases k <;> first | rfl | (simp only [ixAddrA, ixaR]; cases arrA P ty <;> rfl)
theorem ix_eq (P : Program) (ty : TypeId) (x k : AV) : ixA P ty x k = ixR (isStrT P ty) ((arrA P ty).bind fun q => if (P.underlying q.2).isSome then some (q.1, szA P q.2, aggA P q.2) else none) x k := by
  cases x <;> cases k <;> first | rfl | skip
  simp only [ixA, ixR]
  cases arrA P ty with
  | none => rfl
  | some q => cases hu : (P.underlying q.2).isSome <;> simp [hu]
theorem binA_nil (kd : Kd) (op : BinOp) : binA kd op .nili .nili = none := by
  unfold binA
  simp only
  split <;> (cases kd <;> rfl)
theorem binA_agg (kd : Kd) (op : BinOp) (xs ys : List AV) : binA kd op (.agg xs) (.agg ys) = none := by
  unfold binA
  simp only
  split <;> (cases kd <;> rfl)

theorem trOp_sound (r : RV n vm lm t V L) {o : Oper} {ro : RO} (he : trOp P mu vm lm o = some ro) : evalOp P mu t h o = evalR V L h ro ∧ calleeA t o = calleeR V L ro := by
  unfold trOp at he
  simp only at he
  split at he
  case h_1 x ho =>
    obtain ⟨a, ha, rfl⟩ := Option.map_eq_some_iff.1 he
    exact ⟨by simp [evalOp, pureOp, ho, evalR, trArg_sound r ha], by simp [calleeA, calleeR, ho]⟩
  case h_2 x ho =>
    obtain ⟨a, ha, rfl⟩ := Option.map_eq_some_iff.1 he
    exact ⟨by simp [evalOp, pureOp, ho, evalR, trArg_sound r ha], by simp [calleeA, calleeR, ho]⟩
  case h_3 c x y ho =>
    obtain ⟨c', hc, he⟩ := Option.bind_eq_some_iff.1 he
    obtain ⟨x', hx, he⟩ := Option.bind_eq_some_iff.1 he
    obtain ⟨y', hy, rfl⟩ := Option.map_eq_some_iff.1 he
    refine ⟨?_, by simp [calleeA, calleeR, ho]⟩
    simp only [evalOp, pureOp, ho, evalR, trArg_sound r hc, trArg_sound r hx, trArg_sound r hy]
    rfl
  case h_4 ty parts ho =>
    obtain ⟨z, hz, he⟩ := Option.bind_eq_some_iff.1 he
    obtain ⟨ps, hps, he⟩ := Option.bind_eq_some_iff.1 he
    have hp := trParts_sound r hps
    split at he
    · rename_i pl hpl
      split at he
      · rename_i hall
        injection he with he
        subst he
        exact ⟨by simp only [evalOp, pureOp, ho, evalR, hz, hpl, Option.bind_some, hall, if_true, hp, Option.map_map]; rfl, by simp [calleeA, calleeR, ho]⟩
      · cases he
    · rename_i hpl
      obtain ⟨q, hq, he⟩ := Option.bind_eq_some_iff.1 he
      split at he
      · cases he
      · rename_i hnz
        injection he with he
        subst he
        exact ⟨by simp only [evalOp, pureOp, ho, evalR, hz, hpl, hq, Option.bind_some, hnz, if_false, hp, Option.map_map]; rfl, by simp [calleeA, calleeR, ho]⟩
  case h_5 x ho =>
    obtain ⟨a, ha, rfl⟩ := Option.map_eq_some_iff.1 he
    exact ⟨by simp only [evalOp, pureOp, ho, evalR, trArg_sound r ha]; rfl, by simp [calleeA, calleeR, ho]⟩
  case h_6 op ty x y yt ho =>
    obtain ⟨x', hx, he⟩ := Option.bind_eq_some_iff.1 he
    obtain ⟨y', hy, rfl⟩ := Option.map_eq_some_iff.1 he
    refine ⟨?_, by split <;> simp [calleeA, calleeR, ho]⟩
    have e1 : evalR V L h (if simpleK (kindA P ty) then .bin (kindA P ty) op x' y' else .binG (kindA P ty) (flatK P ty) (isC y) op x' y') =
        (if simpleK (kindA P ty) then binA (kindA P ty) op (arg V L x') (arg V L y') else binR (kindA P ty) (flatK P ty) (isC y) op (arg V L x') (arg V L y')).map fun v => (v, h) := by
      split <;> rfl
    rw [e1]
    have hfl : simpleK (kindA P ty) = true → flatK P ty = none := by
      intro hk
      unfold flatK
      split
      · rename_i fs hfs
        simp [kindA, hfs, simpleK] at hk
      · rfl
    have e2 : pureOp P t o = if simpleK (kindA P ty) then binA (kindA P ty) op (arg V L x') (arg V L y') else binR (kindA P ty) (flatK P ty) (isC y) op (arg V L x') (arg V L y') := by
      simp only [pureOp, ho, trArg_sound r hx, trArg_sound r hy]
      generalize arg V L x' = X
      generalize arg V L y' = Y
      generalize kindA P ty = kd at *
      generalize flatK P ty = ks at *
      cases hs : simpleK kd
      · simp only [Bool.false_eq_true, if_false]
        cases X <;> first | rfl | skip
        · cases Y <;> first | rfl | (cases kd <;> cases y <;> cases op <;> rfl)
        · cases Y <;> rfl
      · simp only [if_true]
        have h0 := hfl hs
        subst h0
        cases X <;> first | rfl | skip
        · cases Y <;> first | rfl | skip
          rw [binA_nil]
          cases kd <;> first | rfl | cases hs
        · cases Y <;> first | rfl | skip
          rw [binA_agg]
          rfl
    simp only [evalOp, ho]
    rw [e2]
  case h_7 op ty x ho =>
    obtain ⟨a, ha, rfl⟩ := Option.map_eq_some_iff.1 he
    exact ⟨by simp only [evalOp, pureOp, ho, evalR, trArg_sound r ha], by simp [calleeA, calleeR, ho]⟩
  case h_8 src dst x ho =>
    split at he
    · cases he
    · rename_i hn
      obtain ⟨a, ha, rfl⟩ := Option.map_eq_some_iff.1 he
      exact ⟨by simp only [evalOp, pureOp, ho, evalR, trArg_sound r ha, hn]; rfl, by simp [calleeA, calleeR, ho]⟩
  case h_9 ty x ho =>
    split at he
    · cases he
    · rename_i hn
      obtain ⟨a, ha, rfl⟩ := Option.map_eq_some_iff.1 he
      exact ⟨by simp only [evalOp, pureOp, ho, evalR, trArg_sound r ha, hn, if_false]; rfl, by simp [calleeA, calleeR, ho]⟩
  case h_10 g first captured ho =>
    split at he
    · obtain ⟨a, ha, he⟩ := Option.bind_eq_some_iff.1 he
      obtain ⟨c, hc, rfl⟩ := Option.map_eq_some_iff.1 he
      exact ⟨by simp [evalOp, pureOp, ho, evalR, trArgs_sound r ha, trArgs_sound r hc], by simp [calleeA, calleeR, ho]⟩
    · cases he
  case h_11 ty x lo hi mx ho =>
    split at he
    · cases he
    · rename_i hmx
      obtain ⟨a, ha, he⟩ := Option.bind_eq_some_iff.1 he
      obtain ⟨lo', hlo, he⟩ := Option.bind_eq_some_iff.1 he
      obtain ⟨hi', hhi, rfl⟩ := Option.map_eq_some_iff.1 he
      refine ⟨?_, by simp [calleeA, calleeR, ho]⟩
      simp only [evalOp, pureOp, ho, evalR, trArg_sound r ha, trOpt_sound r hlo, trOpt_sound r hhi, fits_eq]
      cases hf : fitsR (isStrT P ty) (elemA P ty) (arg V L a) <;> simp [hmx]
  case h_12 s x fi ho =>
    obtain ⟨q, hq, he⟩ := Option.bind_eq_some_iff.1 he
    split at he
    · cases he
    · rename_i hn
      obtain ⟨a, ha, rfl⟩ := Option.map_eq_some_iff.1 he
      exact ⟨by simp only [evalOp, pureOp, ho, evalR, trArg_sound r ha, hq, Option.bind_some, hn, if_false], by simp [calleeA, calleeR, ho]⟩
  case h_13 s x fi ho =>
    obtain ⟨q, hq, he⟩ := Option.bind_eq_some_iff.1 he
    split at he
    · cases he
    · rename_i hn
      obtain ⟨a, ha, rfl⟩ := Option.map_eq_some_iff.1 he
      exact ⟨by simp only [evalOp, pureOp, ho, evalR, trArg_sound r ha, hq, Option.bind_some, hn, if_false]; rfl, by simp [calleeA, calleeR, ho]⟩
  case h_14 ty x ix ho =>
    obtain ⟨a, ha, he⟩ := Option.bind_eq_some_iff.1 he
    obtain ⟨k, hk, rfl⟩ := Option.map_eq_some_iff.1 he
    exact ⟨by simp only [evalOp, pureOp, ho, evalR, trArg_sound r ha, trArg_sound r hk, ixa_eq], by simp [calleeA, calleeR, ho]⟩
  case h_15 ty x ix ho =>
    obtain ⟨a, ha, he⟩ := Option.bind_eq_some_iff.1 he
    obtain ⟨k, hk, rfl⟩ := Option.map_eq_some_iff.1 he
    exact ⟨by simp only [evalOp, pureOp, ho, evalR, trArg_sound r ha, trArg_sound r hk, ix_eq], by simp [calleeA, calleeR, ho]⟩
  case h_16 x xt as ok ho =>
    split at he
    · rename_i hp
      obtain ⟨a, ha, rfl⟩ := Option.map_eq_some_iff.1 he
      refine ⟨?_, by simp [calleeA, calleeR, ho]⟩
      simp only [evalOp, pureOp, ho, evalR, trArg_sound r ha, hp, true_and]
      rfl
    · cases he
  case h_17 x i ho =>
    obtain ⟨a, ha, rfl⟩ := Option.map_eq_some_iff.1 he
    exact ⟨by simp only [evalOp, pureOp, ho, evalR, trArg_sound r ha]; rfl, by simp [calleeA, calleeR, ho]⟩
  case h_18 args argTypes ho =>
    split at he
    · rename_i x ty tys e1 e2
      obtain ⟨a, ha, rfl⟩ := Option.map_eq_some_iff.1 he
      refine ⟨?_, by simp [calleeA, calleeR, ho]⟩
      simp only [evalOp, pureOp, ho, evalR, e1, e2, trArg_sound r ha, fits_eq]
      split <;> simp [Option.map_map, Function.comp_def]
    · cases he
  case h_19 e ho =>
    obtain ⟨z, hz, rfl⟩ := Option.map_eq_some_iff.1 he
    refine ⟨?_, ?_⟩
    · simp only [evalOp, ho, hz, Option.map_some]
      split <;> rfl
    · split <;> simp [calleeA, calleeR, ho]
  case h_20 e x ho =>
    obtain ⟨a, ha, rfl⟩ := Option.map_eq_some_iff.1 he
    refine ⟨?_, ?_⟩
    · simp only [evalOp, ho, trArg_sound r ha]
      split <;> split <;> simp_all [evalR]
    · split <;> simp [calleeA, calleeR, ho]
  case h_21 ty len parts ho =>
    obtain ⟨e, he1, he⟩ := Option.bind_eq_some_iff.1 he
    obtain ⟨z, hz, he⟩ := Option.bind_eq_some_iff.1 he
    split at he
    · rename_i hc
      obtain ⟨ps, hps, rfl⟩ := Option.map_eq_some_iff.1 he
      exact ⟨by simp only [evalOp, ho, evalR, he1, hz, Option.bind_some, if_pos hc, trParts_sound r hps], by simp [calleeA, calleeR, ho]⟩
    · cases he
  case h_22 ty a ho =>
    split at he
    · cases he
    · rename_i hn
      obtain ⟨a, ha, rfl⟩ := Option.map_eq_some_iff.1 he
      exact ⟨by simp only [evalOp, ho, evalR, trArg_sound r ha, hn, if_false]; rfl, by simp [calleeA, calleeR, ho]⟩
  case h_23 ty a x ho =>
    split at he
    · cases he
    · rename_i hn
      obtain ⟨a, ha, he⟩ := Option.bind_eq_some_iff.1 he
      obtain ⟨x, hx, rfl⟩ := Option.map_eq_some_iff.1 he
      exact ⟨by simp only [evalOp, ho, evalR, trArg_sound r ha, trArg_sound r hx, hn, if_false], by simp [calleeA, calleeR, ho]⟩
  case h_24 ty l c ho =>
    obtain ⟨e, he1, he⟩ := Option.bind_eq_some_iff.1 he
    obtain ⟨z, hz, he⟩ := Option.bind_eq_some_iff.1 he
    obtain ⟨a, ha, he⟩ := Option.bind_eq_some_iff.1 he
    obtain ⟨k, hk, rfl⟩ := Option.map_eq_some_iff.1 he
    exact ⟨by simp only [evalOp, ho, evalR, trArg_sound r ha, trArg_sound r hk, he1, hz, Option.bind_some]; rfl, by simp [calleeA, calleeR, ho]⟩
  case h_25 args argTypes ho =>
    split at he
    · rename_i x y ty ty' e1 e2
      split at he
      · rename_i ht
        obtain ⟨e, he1, he⟩ := Option.bind_eq_some_iff.1 he
        split at he
        · rename_i hz
          obtain ⟨a, ha, he⟩ := Option.bind_eq_some_iff.1 he
          obtain ⟨k, hk, rfl⟩ := Option.map_eq_some_iff.1 he
          exact ⟨by simp only [evalOp, ho, evalR, e1, e2, trArg_sound r ha, trArg_sound r hk, if_pos ht, he1, Option.bind_some, if_pos hz], by simp [calleeA, calleeR, ho]⟩
        · cases he
      · rename_i ht
        split at he
        · rename_i hst
          obtain ⟨e, he1, he⟩ := Option.bind_eq_some_iff.1 he
          split at he
          · rename_i h8
            obtain ⟨a, ha, he⟩ := Option.bind_eq_some_iff.1 he
            obtain ⟨k, hk, rfl⟩ := Option.map_eq_some_iff.1 he
            exact ⟨by simp only [evalOp, ho, evalR, e1, e2, trArg_sound r ha, trArg_sound r hk, if_neg ht, if_pos hst, he1, Option.bind_some, if_pos h8], by simp [calleeA, calleeR, ho]⟩
          · cases he
        · cases he
    · cases he
  case h_26 fo args aty ho =>
    obtain ⟨a, ha, he⟩ := Option.bind_eq_some_iff.1 he
    obtain ⟨as, has, rfl⟩ := Option.map_eq_some_iff.1 he
    refine ⟨by simp [evalOp, pureOp, ho, evalR], ?_⟩
    simp only [calleeA, calleeR, ho, trArg_sound r ha, trArgs_sound r has]
    rfl
  case h_27 x ho =>
    obtain ⟨a, ha, rfl⟩ := Option.map_eq_some_iff.1 he
    exact ⟨by simp [evalOp, pureOp, ho, evalR], by simp [calleeA, calleeR, ho]⟩
  case h_28 args _ ho =>
    split at he
    · rename_i x y e1
      obtain ⟨a, ha, he⟩ := Option.bind_eq_some_iff.1 he
      obtain ⟨k, hk, rfl⟩ := Option.map_eq_some_iff.1 he
      exact ⟨by simp only [evalOp, pureOp, ho, e1, evalR, trArg_sound r ha, trArg_sound r hk], by simp [calleeA, calleeR, ho]⟩
    · cases he
  case h_29 args _ ho =>
    split at he
    · rename_i x y e1
      obtain ⟨a, ha, he⟩ := Option.bind_eq_some_iff.1 he
      obtain ⟨k, hk, rfl⟩ := Option.map_eq_some_iff.1 he
      exact ⟨by simp only [evalOp, pureOp, ho, e1, evalR, trArg_sound r ha, trArg_sound r hk], by simp [calleeA, calleeR, ho]⟩
    · cases he
  case h_30 => cases he
theorem trOp_pan {o : Oper} {x : Arg} (he : trOp P mu vm lm o = some (.pan x)) : ∃ y, o.op = .panic y ∧ trArg vm lm y = some x := by
  unfold trOp at he
  simp only at he
  split at he
  case h_27 y ho =>
    obtain ⟨a, ha, e⟩ := Option.map_eq_some_iff.1 he
    injection e with e
    subst e
    exact ⟨y, ho, ha⟩
  all_goals
    exfalso
    try (cases he; done)
    try simp only [Option.map_eq_some_iff, Option.bind_eq_some_iff, reduceCtorEq, and_false, exists_false, exists_const] at he
  case h_4 =>
    obtain ⟨_, _, _, _, he⟩ := he
    split at he
    · split at he <;> cases he
    · obtain ⟨_, _, he⟩ := Option.bind_eq_some_iff.1 he
      split at he <;> cases he
  all_goals
    repeat' (first
      | (cases he; done)
      | split at he
      | (obtain ⟨_, _, he⟩ := he)
      | (simp only [Option.map_eq_some_iff, Option.bind_eq_some_iff, reduceCtorEq, and_false, exists_false, exists_const] at he))
theorem trPan_sound (r : RV n vm lm t V L) {o : Oper} {ro : RO} (he : trOp P mu vm lm o = some ro) : panA t o = panR V L ro := by
  cases ro with
  | pan x =>
    obtain ⟨y, h1, h2⟩ := trOp_pan he
    simp only [panA, h1, panR, trArg_sound r h2]
    rfl
  | _ =>
    have : panA t o = none := by
      unfold panA
      split
      · rename_i x ho
        unfold trOp at he
        rw [ho] at he
        simp only at he
        obtain ⟨a, ha, e⟩ := Option.map_eq_some_iff.1 he
        cases e
      · rfl
    rw [this]
    rfl
end
end Go.Proofs.YtngphebjmmencaaDoor
namespace Go.Proofs.YtngphebjmmencaaDoor
set_option linter.unusedSimpArgs false
set_option linter.unusedVariables false
open Go

section
variable {P : Program} {po : Pol} {f : FuncId} {n : Nat} {vm lm : List Nat} {t V L : List AV} {h : AH} {mu : TypeId → Bool} {plan : Nat → List (Nat × List Nat)}

theorem nodup_inj {l : List Nat} (h : l.Nodup) {i j s : Nat} (hi : l[i]? = some s) (hj : l[j]? = some s) : i = j := by
  obtain ⟨a1, a2⟩ := List.getElem?_eq_some_iff.1 hi
  obtain ⟨b1, b2⟩ := List.getElem?_eq_some_iff.1 hj
  have := List.pairwise_iff_getElem.1 h
  rcases Nat.lt_trichotomy i j with h | h | h
  · exact absurd (a2.trans b2.symm) (this i j a1 b1 h)
  · exact h
  · exact absurd (b2.trans a2.symm) (this j i b1 a1 h)
theorem trDst_sound (r : RV n vm lm t V L) (hnd : vm.Nodup) {dst : Option Tmp} {d : RD × List Nat} (he : trDst n vm lm dst = some d) (v : AV) : RV n vm d.2 (putA t dst v) (putV V v d.1) (putL L v d.1) := by
  cases dst with
  | none => simp only [trDst, Option.some.injEq] at he; subst he; exact r
  | some s =>
    simp only [trDst] at he
    split at he
    · cases he
    · rename_i hc
      simp only [not_or, Nat.not_le, Option.isSome_iff_ne_none, ne_eq, Classical.not_not] at hc
      obtain ⟨c1, c2⟩ := hc
      have hnl := findI_none lm 0 c2
      split at he
      · rename_i j hj
        injection he with he
        subst he
        have hj' := findI_get hj
        refine ⟨by simp [putA, r.len], by simp [putV, r.lv], r.ll, fun i q hq => ?_, fun i q hq => ?_⟩
        · obtain ⟨h1, h2⟩ := r.v i q hq
          refine ⟨h1, ?_⟩
          by_cases hij : i = j
          · subst hij
            rw [hj'] at hq
            injection hq with hq
            subst hq
            have hlt : i < V.length := by rw [r.lv]; exact (List.getElem?_eq_some_iff.1 hj').1
            rw [putA_eq rfl (by rw [r.len]; exact h1)]
            simp [putV, List.getD, hlt]
          · have hne : s ≠ q := by
              intro e
              subst e
              exact hij (nodup_inj hnd hq hj')
            rw [putA_ne (by simpa using hne), h2]
            simp [putV, List.getD, List.getElem?_set_ne (Ne.symm hij)]
        · obtain ⟨h1, h2⟩ := r.l i q hq
          refine ⟨h1, ?_⟩
          have hne : s ≠ q := fun e => hnl (by rw [e]; exact List.mem_of_getElem? hq)
          rw [putA_ne (by simpa using hne), h2]
          rfl
      · rename_i hj
        injection he with he
        subst he
        have hnv := findI_none vm 0 hj
        refine ⟨by simp [putA, r.len], r.lv, by simp [putL, r.ll], fun i q hq => ?_, fun i q hq => ?_⟩
        · obtain ⟨h1, h2⟩ := r.v i q hq
          have hne : s ≠ q := fun e => hnv (by rw [e]; exact List.mem_of_getElem? hq)
          exact ⟨h1, by rw [putA_ne (by simpa using hne), h2]; rfl⟩
        · cases i with
          | zero =>
            simp only [List.getElem?_cons_zero, Option.some.injEq] at hq
            subst hq
            exact ⟨c1, by rw [putA_eq rfl (by rw [r.len]; exact c1)]; rfl⟩
          | succ i =>
            simp only [List.getElem?_cons_succ] at hq
            obtain ⟨h1, h2⟩ := r.l i q hq
            have hne : s ≠ q := fun e => hnl (by rw [e]; exact List.mem_of_getElem? hq)
            exact ⟨h1, by rw [putA_ne (by simpa using hne), h2]; rfl⟩

theorem trGuard_sound (r : RV n vm lm t V L) {all : Array Oper} {o : Oper} {g : Option (Arg × Bool)} (he : trGuard vm lm all o = some g) : wantedA all t o = guardO V L g := by
  unfold trGuard at he
  split at he
  · rename_i hg
    injection he with he
    subst he
    simp [wantedA, hg, guardO]
  · rename_i j want hg
    obtain ⟨d, hd, he⟩ := Option.bind_eq_some_iff.1 he
    obtain ⟨a, ha, rfl⟩ := Option.map_eq_some_iff.1 he
    have := trArg_sound r ha
    simp only [evA] at this
    simp only [wantedA, hg, hd, this, guardO, guardR]
    rfl

theorem trCks_sound (r : RV n vm lm t V L) {all : Array Oper} : ∀ {l : List Oper} {c : List RCk}, trCks P vm lm all l = some c → chkR V L h c → chkA P all t h l
  | [], c, _, _ => trivial
  | o :: l, c, he, hc => by
    simp only [trCks] at he
    obtain ⟨q, hq, he⟩ := Option.bind_eq_some_iff.1 he
    obtain ⟨c', hc', rfl⟩ := Option.map_eq_some_iff.1 he
    obtain ⟨h1, h2⟩ := hc
    refine ⟨?_, trCks_sound r hc' h2⟩
    unfold trCk at hq
    split at hq
    · rename_i ty a d ho hd
      obtain ⟨g, hg, hq⟩ := Option.bind_eq_some_iff.1 hq
      obtain ⟨a', ha, hq⟩ := Option.bind_eq_some_iff.1 hq
      obtain ⟨d', hd', rfl⟩ := Option.map_eq_some_iff.1 hq
      rw [trGuard_sound r hg]
      have e1 := trArg_sound r ha
      have e2 := trArg_sound r hd'
      simp only [evA] at e2
      simp only at h1
      split at h1
      · rename_i hw
        rw [hw]
        simp only [ho, hd, e1, e2]
        exact h1
      · rename_i hw
        split
        · rename_i hw'
          exact absurd hw' hw
        · trivial
    · cases hq

def trL (P : Program) (mu : TypeId → Bool) (plan : Nat → List (Nat × List Nat)) (n : Nat) (vm : List Nat) : List Code → List RS → Option (List RS)
  | [], r => some r
  | c :: cs, r => (trL P mu plan n vm cs r).bind fun r => trCode P mu plan n vm c r

inductive HeadR (P : Program) (mu : TypeId → Bool) (plan : Nat → List (Nat × List Nat)) (n : Nat) (vm : List Nat) : Code → RS → Prop
  | cond (c : Operand) (x y : Code) (a : Arg) (xs ys : List RS) : trArg vm [] c = some a → trCode P mu plan n vm x [] = some xs → trCode P mu plan n vm y [] = some ys → HeadR P mu plan n vm (.cond c x y) (.cond a xs ys)
  | block (id : Nat) (b : Code) (bs : List RS) : trCode P mu plan n vm b [] = some bs → HeadR P mu plan n vm (.block id b) (.block id bs)
  | loop (b : Code) (bs : List RS) : trCode P mu plan n vm b [] = some bs → HeadR P mu plan n vm (.loop b) (.loop bs)
  | exit (id : Nat) : HeadR P mu plan n vm (.exit id) (.exit id)
  | ret : HeadR P mu plan n vm .ret .ret
  | region (id : Nat) (all : Array Oper) (d : Bool) (is : List RI) : trOps P mu n vm all [] (planA d all (plan id)) = some is → HeadR P mu plan n vm (.region id all d) (.ops is)

theorem trL_append (cs ds : List Code) (r : List RS) : trL P mu plan n vm (cs ++ ds) r = (trL P mu plan n vm ds r).bind fun r => trL P mu plan n vm cs r := by
  induction cs with
  | nil => simp only [List.nil_append, trL]; cases trL P mu plan n vm ds r <;> rfl
  | cons c cs ih => simp only [List.cons_append, trL, ih]; cases trL P mu plan n vm ds r <;> rfl

theorem head_code : ∀ (c : Code) (r l : List RS), trCode P mu plan n vm c r = some l →
    (l = r ∧ ∀ k t h, runK P po f (.code c :: k) t h = runK P po f k t h) ∨
    (∃ s l' c1 cs, l = s :: l' ∧ trL P mu plan n vm cs r = some l' ∧ HeadR P mu plan n vm c1 s ∧ ∀ k t h, runK P po f (.code c :: k) t h = runK P po f (.code c1 :: (cs.map .code ++ k)) t h) := by
  intro c
  induction c with
  | skip => intro r l he; simp only [trCode, Option.some.injEq] at he; exact .inl ⟨he.symm, fun k t h => runK_skip⟩
  | label i => intro r l he; simp only [trCode, Option.some.injEq] at he; exact .inl ⟨he.symm, fun k t h => runK_label⟩
  | seq a b iha ihb =>
    intro r l he
    simp only [trCode] at he
    obtain ⟨r1, h1, h2⟩ := Option.bind_eq_some_iff.1 he
    rcases iha r1 l h2 with ⟨e1, e2⟩ | ⟨s, l', c1, cs, e1, e2, e3, e4⟩
    · subst e1
      rcases ihb r l h1 with ⟨f1, f2⟩ | ⟨s, l', c1, cs, f1, f2, f3, f4⟩
      · exact .inl ⟨f1, fun k t h => by rw [runK_seq, e2, f2]⟩
      · exact .inr ⟨s, l', c1, cs, f1, f2, f3, fun k t h => by rw [runK_seq, e2, f4]⟩
    · refine .inr ⟨s, l', c1, cs ++ [b], e1, ?_, e3, fun k t h => ?_⟩
      · rw [trL_append]
        simp only [trL, Option.bind_some, h1, e2]
      · rw [runK_seq, e4]
        simp
  | cond c x y _ _ =>
    intro r l he
    simp only [trCode] at he
    obtain ⟨a, ha, he⟩ := Option.bind_eq_some_iff.1 he
    obtain ⟨xs, hx, he⟩ := Option.bind_eq_some_iff.1 he
    obtain ⟨ys, hy, rfl⟩ := Option.map_eq_some_iff.1 he
    exact .inr ⟨_, _, _, [], rfl, rfl, .cond _ _ _ _ _ _ ha hx hy, fun k t h => rfl⟩
  | block id b _ =>
    intro r l he
    simp only [trCode] at he
    obtain ⟨bs, hb, rfl⟩ := Option.map_eq_some_iff.1 he
    exact .inr ⟨_, _, _, [], rfl, rfl, .block _ _ _ hb, fun k t h => rfl⟩
  | loop b _ =>
    intro r l he
    simp only [trCode] at he
    obtain ⟨bs, hb, rfl⟩ := Option.map_eq_some_iff.1 he
    exact .inr ⟨_, _, _, [], rfl, rfl, .loop _ _ hb, fun k t h => rfl⟩
  | exit id => intro r l he; simp only [trCode, Option.some.injEq] at he; subst he; exact .inr ⟨_, _, _, [], rfl, rfl, .exit _, fun k t h => rfl⟩
  | ret => intro r l he; simp only [trCode, Option.some.injEq] at he; subst he; exact .inr ⟨_, _, _, [], rfl, rfl, .ret, fun k t h => rfl⟩
  | region id ops d =>
    intro r l he
    simp only [trCode] at he
    obtain ⟨is, his, rfl⟩ := Option.map_eq_some_iff.1 he
    exact .inr ⟨_, _, _, [], rfl, rfl, .region _ _ _ _ his, fun k t h => rfl⟩
  | _ => intro r l he; simp [trCode] at he

theorem head_list : ∀ (cs : List Code) (l : List RS), trL P mu plan n vm cs [] = some l →
    (l = [] ∧ ∀ k t h, runK P po f (cs.map .code ++ k) t h = runK P po f k t h) ∨
    (∃ s l' c1 cs', l = s :: l' ∧ trL P mu plan n vm cs' [] = some l' ∧ HeadR P mu plan n vm c1 s ∧ ∀ k t h, runK P po f (cs.map .code ++ k) t h = runK P po f (.code c1 :: (cs'.map .code ++ k)) t h) := by
  intro cs
  induction cs with
  | nil => intro l he; simp only [trL, Option.some.injEq] at he; exact .inl ⟨he.symm, fun k t h => rfl⟩
  | cons c cs ih =>
    intro l he
    simp only [trL] at he
    obtain ⟨r, h1, h2⟩ := Option.bind_eq_some_iff.1 he
    rcases head_code (po := po) (f := f) c r l h2 with ⟨e1, e2⟩ | ⟨s, l', c1, cs1, e1, e2, e3, e4⟩
    · subst e1
      rcases ih l h1 with ⟨f1, f2⟩ | ⟨s, l', c1, cs', f1, f2, f3, f4⟩
      · exact .inl ⟨f1, fun k t h => by simp only [List.map_cons, List.cons_append]; rw [e2, f2]⟩
      · exact .inr ⟨s, l', c1, cs', f1, f2, f3, fun k t h => by simp only [List.map_cons, List.cons_append]; rw [e2, f4]⟩
    · refine .inr ⟨s, l', c1, cs1 ++ cs, e1, ?_, e3, fun k t h => ?_⟩
      · rw [trL_append, h1]
        exact e2
      · simp only [List.map_cons, List.cons_append]
        rw [e4]
        simp

inductive KC (P : Program) (mu : TypeId → Bool) (plan : Nat → List (Nat × List Nat)) (n : Nat) (vm : List Nat) : List AItem → List RK → Prop
  | nil : KC P mu plan n vm [] []
  | ss (cs : List Code) (l : List RS) (k : List AItem) (rk : List RK) : trL P mu plan n vm cs [] = some l → KC P mu plan n vm k rk → KC P mu plan n vm (cs.map .code ++ k) (.ss l :: rk)
  | blk (id : Nat) (k : List AItem) (rk : List RK) : KC P mu plan n vm k rk → KC P mu plan n vm (.inBlock id :: k) (.blk id :: rk)
  | lp (c : Code) (b : List RS) (k : List AItem) (rk : List RK) : trCode P mu plan n vm c [] = some b → KC P mu plan n vm k rk → KC P mu plan n vm (.inLoop c :: k) (.lp b :: rk)
  | halt (K : List Item) (k : List AItem) (rk : List RK) : KC P mu plan n vm (.halt K :: k) (.halt K :: rk)

theorem exitA_codes {id : Nat} (cs : List Code) (k : List AItem) : exitA id (cs.map .code ++ k) = exitA id k := by
  induction cs with
  | nil => rfl
  | cons c cs ih => simp only [List.map_cons, List.cons_append, exitA]; exact ih
theorem exit_rel {id : Nat} {k : List AItem} {rk rk' : List RK} (hk : KC P mu plan n vm k rk) (he : exitR id rk = some rk') : ∃ k', exitA id k = some k' ∧ KC P mu plan n vm k' rk' := by
  induction hk with
  | nil => simp [exitR] at he
  | ss cs l k rk h1 h2 ih =>
    simp only [exitR] at he
    obtain ⟨k', e1, e2⟩ := ih he
    exact ⟨k', by rw [exitA_codes]; exact e1, e2⟩
  | blk i k rk h1 ih =>
    simp only [exitR] at he
    by_cases hi : i = id
    · rw [if_pos hi] at he
      injection he with he
      subst he
      exact ⟨k, by simp [exitA, hi], h1⟩
    · rw [if_neg hi] at he
      obtain ⟨k', e1, e2⟩ := ih he
      exact ⟨k', by simp [exitA, hi]; exact e1, e2⟩
  | lp c b k rk h1 h2 ih =>
    simp only [exitR] at he
    obtain ⟨k', e1, e2⟩ := ih he
    exact ⟨k', by simp only [exitA]; exact e1, e2⟩
  | halt K k rk => simp [exitR] at he

/-- what is shown of a run of steps -/
def ToK (P : Program) (po : Pol) (f : FuncId) (n : Nat) (vm : List Nat) (ak : List AItem) (t : List AV) (h : AH) (r : AEx × List AV × AH) : Prop :=
  ∃ t', runK P po f ak t h = some (r.1, t', r.2.2) ∧ ((∀ v, r.1 ≠ .panic v) → RV n vm [] t' r.2.1 [])

def MotR (P : Program) (po : Pol) (f : FuncId) (n : Nat) (vm : List Nat) (k : List RK) (V L : List AV) (h : AH) (r : AEx × List AV × AH) : Prop :=
  (∀ ak t, KC P (po.mu f) (po.plan f) n vm ak k → RV n vm [] t V [] → ToK P po f n vm ak t h r) ∧
  (∀ d all l is ak lm t k', k = .ops is :: k' → trOps P (po.mu f) n vm all lm l = some is → KC P (po.mu f) (po.plan f) n vm ak k' → RV n vm lm t V L → ToK P po f n vm (.ops d all l :: ak) t h r) ∧
  (∀ d all l is c ck ak lm t k', k = .ops (.ck c :: is) :: k' → trCks P vm lm all ck = some c → trOps P (po.mu f) n vm all lm l = some is → KC P (po.mu f) (po.plan f) n vm ak k' → RV n vm lm t V L →
    chkA P all t h ck ∧ ToK P po f n vm (.ops d all l :: ak) t h r)

theorem ToK.eq {ak ak' : List AItem} {t t' : List AV} {h h' : AH} {r : AEx × List AV × AH} (he : runK P po f ak t h = runK P po f ak' t' h') (hk : ToK P po f n vm ak' t' h' r) : ToK P po f n vm ak t h r := by
  obtain ⟨t2, h1, h2⟩ := hk
  exact ⟨t2, he.trans h1, h2⟩
theorem MotR.not_ops {k : List RK} {V L : List AV} {h : AH} {r : AEx × List AV × AH} (hno : ∀ is k', k ≠ .ops is :: k') (hk : ∀ ak t, KC P (po.mu f) (po.plan f) n vm ak k → RV n vm [] t V [] → ToK P po f n vm ak t h r) : MotR P po f n vm k V L h r :=
  ⟨hk, fun d all l is ak lm t k' he => absurd he (hno _ _), fun d all l is c ck ak lm t k' he => absurd he (hno _ _)⟩
theorem RV.drop {L : List AV} {lm : List Nat} (r : RV n vm lm t V L) : RV n vm [] t V [] := ⟨r.len, r.lv, rfl, r.v, fun j s hs => by simp at hs⟩
theorem RV.clear {nk nr : Nat} (r : RV n vm [] t V []) (h1 : ∀ j s, vm[j]? = some s → (j < nr ↔ s < nk)) : RV n vm [] (clearA nk t) (clearA nr V) [] := by
  refine ⟨by rw [← r.len, clearA]; simp; omega, by rw [← r.lv, clearA]; simp; omega, rfl, fun j s hs => ?_, fun j s hs => by simp at hs⟩
  obtain ⟨a1, a2⟩ := r.v j s hs
  refine ⟨a1, ?_⟩
  have hj : j < V.length := by rw [r.lv]; exact (List.getElem?_eq_some_iff.1 hs).1
  have hs' : s < t.length := by rw [r.len]; exact a1
  have get : ∀ (n : Nat) (x : List AV) (i : Nat), i < x.length → (clearA n x).getD i .junk = if i < n then x.getD i .junk else .junk := by
    intro n x i hi
    unfold clearA
    by_cases hin : i < n
    · have : i < (x.take n).length := by simp; omega
      rw [if_pos hin, List.getD, List.getElem?_append_left this, List.getElem?_take]
      simp [hin, List.getD]
    · rw [if_neg hin, List.getD, List.getElem?_append_right (by simp; omega)]
      simp only [List.getElem?_replicate]
      split <;> rfl
  rw [get _ _ _ hs', get _ _ _ hj]
  by_cases hlt : j < nr
  · rw [if_pos hlt, if_pos ((h1 j s hs).1 hlt), a2]
  · rw [if_neg hlt, if_neg (fun x => hlt ((h1 j s hs).2 x))]
end
end Go.Proofs.YtngphebjmmencaaDoor
namespace Go.Proofs.YtngphebjmmencaaDoor
set_option linter.unusedSimpArgs false
set_option linter.unusedVariables false
open Go

/-- the end of a call, of a list of steps -/
noncomputable def cFR (p : Bool) (rs : List RRes) (h0 : AH) : Option (AEx × List AV × AH) → Option ((AV ⊕ AV) × AH)
  | some (.ret, V, h) => cF.cR p h0 h ((resR V h rs).map oneA)
  | some (.panic v, _, h) => fgA p h0 (.inr v, h)
  | some (.halt _, _, _) => none
  | none => none

section
variable {P : Program} {po : Pol} {f : FuncId} {n nv : Nat} {vm lm : List Nat} {t V L : List AV} {h : AH}

theorem motR_ops {d : RD} {is : List RI} {k' : List RK} {o : Oper} {c : List RCk} {ck : List Oper} {l : List (Oper × List Oper)} {all : Array Oper} {lm2 : List Nat} {dr : Bool} {ak : List AItem} {v : AV} {h' : AH} {r : AEx × List AV × AH}
    (hnd : vm.Nodup) (hd : trDst n vm lm o.dst = some (d, lm2)) (hc : trCks P vm lm2 all ck = some c) (his : trOps P (po.mu f) n vm all lm2 l = some is) (hk : KC P (po.mu f) (po.plan f) n vm ak k') (rv : RV n vm lm t V L)
    (hm : MotR P po f n vm (.ops (addCk c is) :: k') (putV V v d) (putL L v d) h' r) :
    chkA P all (putA t o.dst v) h' ck ∧ ToK P po f n vm (.ops dr all l :: ak) (putA t o.dst v) h' r := by
  have rv' := trDst_sound rv hnd hd v
  cases c with
  | nil =>
    refine ⟨trCks_sound rv' hc trivial, hm.2.1 dr all l is ak _ _ k' rfl his hk rv'⟩
  | cons q c => exact hm.2.2 dr all l is (q :: c) ck ak _ _ k' rfl hc his hk rv'

theorem trOps_cons {mu : TypeId → Bool} {all : Array Oper} {lm : List Nat} {l : List (Oper × List Oper)} {x : RI} {is : List RI} (he : trOps P mu n vm all lm l = some (x :: is)) :
    ∃ o ck l' ro g d lm2 c is', l = (o, ck) :: l' ∧ trOp P mu vm lm o = some ro ∧ trGuard vm lm all o = some g ∧ trDst n vm lm o.dst = some (d, lm2) ∧ trCks P vm lm2 all ck = some c ∧ trOps P mu n vm all lm2 l' = some is' ∧
      x = mkRI g d ro ∧ is = addCk c is' := by
  cases l with
  | nil => simp [trOps] at he
  | cons q l' =>
    obtain ⟨o, ck⟩ := q
    simp only [trOps] at he
    obtain ⟨ro, h1, he⟩ := Option.bind_eq_some_iff.1 he
    obtain ⟨g, h2, he⟩ := Option.bind_eq_some_iff.1 he
    obtain ⟨⟨d, lm2⟩, h3, he⟩ := Option.bind_eq_some_iff.1 he
    obtain ⟨c, h4, he⟩ := Option.bind_eq_some_iff.1 he
    obtain ⟨is', h5, he⟩ := Option.map_eq_some_iff.1 he
    simp only [List.cons.injEq] at he
    exact ⟨o, ck, l', ro, g, d, lm2, c, is', rfl, h1, h2, h3, h4, h5, he.1.symm, he.2.symm⟩

theorem run_op {dr : Bool} {all : Array Oper} {o : Oper} {ck : List Oper} {l : List (Oper × List Oper)} {ak : List AItem} {v : AV} {h' : AH} (hw : wantedA all t o = some true) (hp : panA t o = none) (hc : calleeA t o = none) (he : evalOp P (po.mu f) t h o = some (v, h')) (hck : chkA P all (putA t o.dst v) h' ck) :
    runK P po f (.ops dr all ((o, ck) :: l) :: ak) t h = runK P po f (.ops dr all l :: ak) (putA t o.dst v) h' := by
  rw [runK_cons, hw, cW_true, hp, cP_none, hc, cC_none, he, cO_some, cK_yes hck]
theorem run_call {dr : Bool} {all : Array Oper} {o : Oper} {ck : List Oper} {l : List (Oper × List Oper)} {ak : List AItem} {g : FuncId} {args : List AV} {v : AV} {h' : AH} (hw : wantedA all t o = some true) (hp : panA t o = none) (hc : calleeA t o = some (g, args)) (he : runF P po g args h = some (.inl v, h')) (hck : chkA P all (putA t o.dst v) h' ck) :
    runK P po f (.ops dr all ((o, ck) :: l) :: ak) t h = runK P po f (.ops dr all l :: ak) (putA t o.dst v) h' := by
  rw [runK_cons, hw, cW_true, hp, cP_none, hc, cC_some, he, cCl_ret, cK_yes hck]
theorem run_stop {dr : Bool} {all : Array Oper} {o : Oper} {ck : List Oper} {l : List (Oper × List Oper)} {ak : List AItem} {g : FuncId} {args : List AV} {v : AV} {h' : AH} (hw : wantedA all t o = some true) (hp : panA t o = none) (hc : calleeA t o = some (g, args)) (he : runF P po g args h = some (.inr v, h')) :
    runK P po f (.ops dr all ((o, ck) :: l) :: ak) t h = some (.panic v, t, h') := by
  rw [runK_cons, hw, cW_true, hp, cP_none, hc, cC_some, he, cCl_panic]
theorem run_skip {dr : Bool} {all : Array Oper} {o : Oper} {ck : List Oper} {l : List (Oper × List Oper)} {ak : List AItem} (hw : wantedA all t o = some false) :
    runK P po f (.ops dr all ((o, ck) :: l) :: ak) t h = runK P po f (.ops dr all l :: ak) (putA t o.dst (.tup [])) h := by
  rw [runK_cons, hw, cW_false]

theorem runR_mot (hnd : vm.Nodup) (hcl : ∀ j s, vm[j]? = some s → (j < nv ↔ s < po.nv f)) :
    ∀ (k : List RK) (V L : List AV) (h : AH) (r : AEx × List AV × AH), runR (runF P po) nv k V L h = some r → MotR P po f n vm k V L h r := by
  refine runR.partial_correctness (runF P po) nv (MotR P po f n vm) fun run ih k V L h r hr => ?_
  have wanted : ∀ {d : RD} {ro : RO} {is : List RI} {k' : List RK}, (match panR V L ro with
      | some v => some (.panic v, V, h)
      | none => match calleeR V L ro with
      | some (g, args) => runF P po g args h >>= fun r => match r.1 with
        | .inl v => run (.ops is :: k') (putV V v d) (putL L v d) r.2
        | .inr v => some (.panic v, V, r.2)
      | none => evalR V L h ro >>= fun r => run (.ops is :: k') (putV V r.1 d) (putL L r.1 d) r.2) = some r →
      ∀ {all o ck l lm lm2 c is' ak t dr}, trOp P (po.mu f) vm lm o = some ro → trDst n vm lm o.dst = some (d, lm2) → trCks P vm lm2 all ck = some c → trOps P (po.mu f) n vm all lm2 l = some is' → is = addCk c is' →
      KC P (po.mu f) (po.plan f) n vm ak k' → RV n vm lm t V L → wantedA all t o = some true → ToK P po f n vm (.ops dr all ((o, ck) :: l) :: ak) t h r := by
    intro d ro is k' hr all o ck l lm lm2 c is' ak t dr h1 h2 h3 h4 h5 hk rv hw
    obtain ⟨e1, e2⟩ := trOp_sound (h := h) rv h1
    have e0 := trPan_sound rv h1
    split at hr
    · rename_i v hpa
      injection hr with hr
      subst hr
      exact ⟨t, by rw [runK_cons, hw, cW_true, e0, hpa, cP_some], fun e => absurd rfl (e _)⟩
    rename_i hpn
    have e0 := e0.trans hpn
    split at hr
    · rename_i g args hcl'
      obtain ⟨⟨x, h'⟩, hx, hr⟩ := Option.bind_eq_some_iff.1 hr
      cases x with
      | inl v =>
        simp only at hr
        subst h5
        have hm := ih _ _ _ _ _ hr
        obtain ⟨m1, m2⟩ := motR_ops (dr := dr) hnd h2 h3 h4 hk rv hm
        exact m2.eq (run_call hw e0 (e2.trans hcl') hx m1)
      | inr v =>
        simp only at hr
        injection hr with hr
        subst hr
        exact ⟨t, run_stop hw e0 (e2.trans hcl') hx, fun e => absurd rfl (e _)⟩
    · rename_i hcl'
      obtain ⟨⟨v, h'⟩, hx, hr⟩ := Option.bind_eq_some_iff.1 hr
      simp only at hr
      subst h5
      have hm := ih _ _ _ _ _ hr
      obtain ⟨m1, m2⟩ := motR_ops (dr := dr) hnd h2 h3 h4 hk rv hm
      exact m2.eq (run_op hw e0 (e2.trans hcl') (e1.trans hx) m1)
  split at hr
  · injection hr with hr
    subst hr
    refine MotR.not_ops (by simp) fun ak t hk rv => ?_
    cases hk
    exact ⟨t, runK_nil, fun _ => rv⟩
  · rename_i k
    refine MotR.not_ops (by simp) fun ak t hk rv => ?_
    cases hk with
    | ss cs _ k0 _ htr hk =>
      rcases head_list (po := po) (f := f) cs [] htr with ⟨_, e2⟩ | ⟨s, l', c1, cs', e1, _⟩
      · exact ((ih _ _ _ _ _ hr).1 _ _ hk rv.drop).eq (e2 _ _ _)
      · cases e1
  · rename_i s l k
    refine MotR.not_ops (by simp) fun ak t hk rv => ?_
    cases hk with
    | ss cs _ k0 _ htr hk =>
      rcases head_list (po := po) (f := f) cs (s :: l) htr with ⟨e1, _⟩ | ⟨s', l', c1, cs', e1, e2, e3, e4⟩
      · cases e1
      · injection e1 with e1 e1'
        subst e1; subst e1'
        refine ToK.eq (e4 _ _ _) ?_
        have hkc : KC P (po.mu f) (po.plan f) n vm (cs'.map .code ++ k0) (.ss l :: k) := .ss cs' l k0 k e2 hk
        cases e3 with
        | region id all d is hreg =>
          exact ((ih _ _ _ _ _ hr).2.1 d all _ is _ [] t _ rfl hreg hkc rv).eq runK_region
        | cond c x y a xs ys ha hx hy =>
          simp only at hr
          have hev := trArg_sound rv ha
          split at hr
          · rename_i b hb
            have hev2 : evA t c = .bool b := hev.trans hb
            cases b with
            | true =>
              simp only [if_true] at hr
              refine ToK.eq (by rw [runK_cond, hev2, cCd_true]) ((ih _ _ _ _ _ hr).1 (.code x :: (cs'.map .code ++ k0)) t ?_ rv)
              exact .ss [x] xs _ _ (by simp [trL, hx]) hkc
            | false =>
              simp only [Bool.false_eq_true, if_false] at hr
              refine ToK.eq (by rw [runK_cond, hev2, cCd_false]) ((ih _ _ _ _ _ hr).1 (.code y :: (cs'.map .code ++ k0)) t ?_ rv)
              exact .ss [y] ys _ _ (by simp [trL, hy]) hkc
          · cases hr
        | block id b bs hb =>
          refine ToK.eq runK_block ((ih _ _ _ _ _ hr).1 (.code b :: .inBlock id :: (cs'.map .code ++ k0)) t ?_ rv)
          exact .ss [b] bs _ _ (by simp [trL, hb]) (.blk id _ _ hkc)
        | loop b bs hb =>
          exact ToK.eq runK_loop ((ih _ _ _ _ _ hr).1 (.inLoop b :: (cs'.map .code ++ k0)) t (.lp b bs _ _ hb hkc) rv)
        | exit id =>
          obtain ⟨rk', h1, hr⟩ := Option.bind_eq_some_iff.1 hr
          obtain ⟨k', h2, h3⟩ := exit_rel hkc (by simpa [exitR] using h1 : exitR id (.ss l :: k) = some rk')
          exact ToK.eq (by rw [runK_exit, h2, cE_some]) ((ih _ _ _ _ _ hr).1 k' t h3 rv)
        | ret =>
          injection hr with hr
          subst hr
          exact ⟨t, runK_ret, fun _ => rv⟩
  · rename_i id k
    refine MotR.not_ops (by simp) fun ak t hk rv => ?_
    cases hk with
    | blk _ k0 _ hk => exact ToK.eq runK_inBlock ((ih _ _ _ _ _ hr).1 _ _ hk rv)
  · rename_i KH k
    injection hr with hr
    subst hr
    refine MotR.not_ops (by simp) fun ak t hk rv => ?_
    cases hk with
    | halt _ k0 _ => exact ⟨t, runK_halt, fun _ => rv⟩
  · rename_i b k
    refine MotR.not_ops (by simp) fun ak t hk rv => ?_
    cases hk with
    | lp c _ k0 _ hb hk =>
      refine ToK.eq runK_inLoop ((ih _ _ _ _ _ hr).1 (.code c :: .inLoop c :: k0) _ ?_ (rv.clear hcl))
      exact .ss [c] b _ _ (by simp [trL, hb]) (.lp c b _ _ hb hk)
  · rename_i k
    refine ⟨fun ak t hk rv => (by cases hk), fun dr all l is ak lm t k' he htr hk rv => ?_, fun dr all l is c ck ak lm t k' he => (by cases he)⟩
    injection he with he1 he2
    injection he1 with he1
    subst he1; subst he2
    cases l with
    | nil => exact ToK.eq runK_ops_nil ((ih _ _ _ _ _ hr).1 _ _ hk rv.drop)
    | cons q l =>
      obtain ⟨o, ck⟩ := q
      simp only [trOps] at htr
      obtain ⟨ro, h1, htr⟩ := Option.bind_eq_some_iff.1 htr
      obtain ⟨g, h2, htr⟩ := Option.bind_eq_some_iff.1 htr
      obtain ⟨⟨d, lm2⟩, h3, htr⟩ := Option.bind_eq_some_iff.1 htr
      obtain ⟨c, h4, htr⟩ := Option.bind_eq_some_iff.1 htr
      obtain ⟨is', h5, htr⟩ := Option.map_eq_some_iff.1 htr
      cases htr
  · rename_i l is k
    split at hr
    · rename_i hck
      refine ⟨fun ak t hk rv => (by cases hk), fun dr all l2 is2 ak lm t k' he htr hk rv => ?_, fun dr all l2 is2 c ck ak lm t k' he hc htr hk rv => ?_⟩
      · injection he with he1 he2
        injection he1 with he1
        subst he1; subst he2
        obtain ⟨o, ck, l', ro, g, d, lm2, c, is', _, _, _, _, _, _, hx, _⟩ := trOps_cons htr
        cases g <;> cases hx
      · injection he with he1 he2
        injection he1 with he1
        injection he1 with he0 he1
        injection he0 with he0
        subst he0; subst he1; subst he2
        exact ⟨trCks_sound rv hc hck, (ih _ _ _ _ _ hr).2.1 dr all l2 is ak lm t _ rfl htr hk rv⟩
    · cases hr
  · rename_i d ro is k
    refine ⟨fun ak t hk rv => (by cases hk), fun dr all l is2 ak lm t k' he htr hk rv => ?_, fun dr all l is2 c ck ak lm t k' he => (by cases he)⟩
    injection he with he1 he2
    injection he1 with he1
    subst he1; subst he2
    obtain ⟨o, ck, l', ro', g, d', lm2, c, is', rfl, h1, h2, h3, h4, h5, hx, h6⟩ := trOps_cons htr
    cases g with
    | some g => cases hx
    | none =>
      injection hx with hx1 hx2
      subst hx1; subst hx2
      exact wanted hr h1 h3 h4 h5 h6 hk rv (by rw [trGuard_sound rv h2]; rfl)
  · rename_i a w d ro is k
    refine ⟨fun ak t hk rv => (by cases hk), fun dr all l is2 ak lm t k' he htr hk rv => ?_, fun dr all l is2 c ck ak lm t k' he => (by cases he)⟩
    injection he with he1 he2
    injection he1 with he1
    subst he1; subst he2
    obtain ⟨o, ck, l', ro', g, d', lm2, c, is', rfl, h1, h2, h3, h4, h5, hx, h6⟩ := trOps_cons htr
    cases g with
    | none => cases hx
    | some g =>
      injection hx with hx1 hx2 hx3 hx4
      obtain ⟨ga, gw⟩ := g
      simp only at hx1 hx2
      subst hx1; subst hx2; subst hx3; subst hx4
      have hg := trGuard_sound rv h2
      simp only [guardO] at hg
      split at hr
      · cases hr
      · rename_i hgf
        subst h6
        obtain ⟨_, m2⟩ := motR_ops (dr := dr) hnd h3 h4 h5 hk rv (ih _ _ _ _ _ hr)
        exact m2.eq (run_skip (hg.trans hgf))
      · rename_i hgt
        exact wanted hr h1 h3 h4 h5 h6 hk rv (hg.trans hgt)

theorem resR_sound (rv : RV n vm [] t V []) : ∀ {l : List ResultVar} {rs : List RRes}, trRes P vm l = some rs → resL P t h l = resR V h rs
  | [], rs, he => by simp only [trRes, Option.some.injEq] at he; subst he; rfl
  | .tmp i :: l, rs, he => by
    simp only [trRes] at he
    obtain ⟨j, hj, he⟩ := Option.bind_eq_some_iff.1 he
    obtain ⟨rs', hrs, rfl⟩ := Option.map_eq_some_iff.1 he
    simp only [resL, resR, resR_sound rv hrs, (rv.v j i (findI_get hj)).2]
  | .cell i ty :: l, rs, he => by
    simp only [trRes] at he
    split at he
    · cases he
    · rename_i hn
      obtain ⟨j, hj, he⟩ := Option.bind_eq_some_iff.1 he
      obtain ⟨rs', hrs, rfl⟩ := Option.map_eq_some_iff.1 he
      simp only [resL, resR, resR_sound rv hrs, (rv.v j i (findI_get hj)).2, if_neg hn]

/-- variables: the arguments first; those that stay over a loop's round ahead of the others -/
def okVm (a n nk nv : Nat) (vm : List Nat) : Bool :=
  decide (a ≤ vm.length ∧ a ≤ n) && (List.range vm.length).all fun j => let s := vm.getD j 0
    decide (s < n) && (decide (j < nv) == decide (s < nk)) && (if j < a ∨ s < a then s == j else true) && (List.range j).all fun i => vm.getD i 0 != s

/-- a function is a list of steps -/
def FnR (P : Program) (po : Pol) (g : FuncId) (a nv : Nat) (vm : List Nat) (ss : List RS) (rs : List RRes) (p : Bool) : Prop :=
  ∃ fn c, P.funcs[g]? = some fn ∧ fn.body = some c ∧ po.ext g = none ∧ po.use g = true ∧ po.pure g = p ∧ trCode P (po.mu g) (po.plan g) fn.ntmps vm c [] = some ss ∧ okVm a fn.ntmps (po.nv g) nv vm = true ∧ trRes P vm fn.results.toList = some rs

theorem runF_R {g : FuncId} {a : Nat} {ss : List RS} {rs : List RRes} {p : Bool} {args : List AV} {q : (AV ⊕ AV) × AH} (hf : FnR P po g a nv vm ss rs p) (ha : args.length = a)
    (hr : cFR p rs h (runR (runF P po) nv [.ss ss] (args ++ List.replicate (vm.length - args.length) .junk) [] h) = some q) : runF P po g args h = some q := by
  obtain ⟨fn, c, h1, h2, h3, h4, h5, h6, h7, h8⟩ := hf
  rw [runF_body h3 h1 h2 h4 h5]
  unfold okVm at h7
  simp only [Bool.and_eq_true, decide_eq_true_eq, List.all_eq_true, List.mem_range, beq_iff_eq, bne_iff_ne, ne_eq] at h7
  obtain ⟨⟨a1, a2⟩, a3⟩ := h7
  have get : ∀ j s, vm[j]? = some s → j < vm.length ∧ vm.getD j 0 = s := fun j s hj => ⟨(List.getElem?_eq_some_iff.1 hj).1, by simp [List.getD, hj]⟩
  have hnd : vm.Nodup := by
    rw [List.nodup_iff_pairwise_ne, List.pairwise_iff_getElem]
    intro i j hi hj hij e
    have := (a3 j hj).2 i hij
    apply this
    simp [List.getD, hi, hj, e]
  have hcl : ∀ j s, vm[j]? = some s → (j < nv ↔ s < po.nv g) := by
    intro j s hj
    obtain ⟨g1, g2⟩ := get j s hj
    have := (a3 j g1).1.1.2
    rw [g2] at this
    exact decide_eq_decide.1 this
  have rv : RV fn.ntmps vm [] (args ++ List.replicate (fn.ntmps - args.length) .junk) (args ++ List.replicate (vm.length - args.length) .junk) [] := by
    refine ⟨by simp; omega, by simp; omega, rfl, fun j s hj => ?_, fun j s hj => by simp at hj⟩
    obtain ⟨g1, g2⟩ := get j s hj
    obtain ⟨⟨⟨b1, _⟩, b2⟩, _⟩ := a3 j g1
    rw [g2] at b1 b2
    refine ⟨b1, ?_⟩
    by_cases hc : j < a ∨ s < a
    · rw [if_pos hc] at b2
      have : s = j := by simpa using b2
      subst this
      have hlt : s < args.length := by omega
      simp [List.getD, List.getElem?_append_left hlt]
    · have c1 : ¬ j < args.length := by omega
      have c2 : ¬ s < args.length := by omega
      simp only [List.getD, List.getElem?_append_right (Nat.not_lt.1 c1), List.getElem?_append_right (Nat.not_lt.1 c2), List.getElem?_replicate]
      split <;> split <;> rfl
  generalize hrun : runR (runF P po) nv [.ss ss] (args ++ List.replicate (vm.length - args.length) .junk) [] h = x at hr
  cases x with
  | none => cases hr
  | some r =>
    have hm := (runR_mot (n := fn.ntmps) (f := g) hnd hcl _ _ _ _ _ hrun).1 [.code c] _ (.ss [c] ss [] [] (by simp [trL, h6]) .nil) rv
    obtain ⟨t', e1, e2⟩ := hm
    rw [e1]
    obtain ⟨x, V', h'⟩ := r
    cases x with
    | panic v => exact hr
    | halt K => cases hr
    | ret =>
      rw [cF_ret]
      have := resR_sound (h := h') (e2 (by simp)) h8
      unfold resA
      rw [this]
      exact hr
end
end Go.Proofs.YtngphebjmmencaaDoor
