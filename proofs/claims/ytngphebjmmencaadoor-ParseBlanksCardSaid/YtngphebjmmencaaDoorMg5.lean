/- Functions as short lists of steps: what they do ('runR'), how they are made out of the program ('trFn'). No walk here. What a short list of steps does the function does. What a list of steps comes to the function comes to. What a list of steps comes to the function comes to: the proof. Orders for statements whose order is open, which slots are variables: computed. And what must hold of a program, checked. The steps of 'runR', one equation each: for 'simp only'. What simple steps come to: for 'simp only'. -/
import Derived.Test.YtngphebjmmencaaDoorMg4
namespace Go.Proofs.YtngphebjmmencaaDoor
set_option linter.unusedSimpArgs false
set_option linter.unusedVariables false
open Go

/-- a variable, what was computed a little ahead, a constant -/
inductive Arg where
  | v (j : Nat)
  | l (i : Nat)
  | c (a : AV)

def arg (V L : List AV) : Arg → AV
  | .v j => V.getD j .junk
  | .l i => L.getD i .junk
  | .c a => a

inductive RO where
  | mv (x : Arg)
  | pick (c x y : Arg)
  | build (z : List AV) (pl : List (Nat × Nat)) (parts : List (Nat × Arg))
  | nilc (x : Arg)
  | bin (kd : Kd) (op : BinOp) (x y : Arg)
  | binG (kd : Kd) (ks : Option (List Kd)) (cy : Bool) (op : BinOp) (x y : Arg)
  | un (op : UnOp) (x : Arg)
  | conv (kd : Kd) (x : Arg)
  | mki (t : TypeId) (x : Arg)
  | mkf (g : FuncId) (first captured : List Arg)
  | slc (s : Bool) (e : Option TypeId) (x : Arg) (lo hi : Option Arg)
  | fad (off : Nat) (x : Arg)
  | fld (agg : Bool) (n off : Nat) (x : Arg)
  | ixa (e : Option TypeId) (ar : Option (Nat × Nat)) (x k : Arg)
  | ix (s : Bool) (ar : Option (Nat × Nat × Bool)) (x k : Arg)
  | tas (as : TypeId) (ok : Bool) (x : Arg)
  | ext (x : Arg) (i : Nat)
  | len (s : Bool) (e : Option TypeId) (x : Arg)
  | alloc (z : List AV)
  | talloc (t : TypeId) (z : List AV)
  | mm (mx : Bool) (x y : Arg)
  | box (n : Nat) (x : Arg)
  | tbox (t : TypeId) (n : Nat) (x : Arg)
  | bsl (mu : Bool) (e : TypeId) (z : List AV) (n len : Nat) (parts : List (Nat × Arg))
  | load (agg : Bool) (n : Nat) (x : Arg)
  | store (n : Nat) (a x : Arg)
  | mks (e : TypeId) (z : List AV) (l c : Arg)
  | app (mu : Bool) (e : TypeId) (x y : Arg)
  | apps (mu : Bool) (e : TypeId) (x y : Arg)
  | call (f : Arg) (args : List Arg)
  | pan (x : Arg)

inductive RD where
  | l
  | v (j : Nat)
  | n

/-- a load that is looked at again -/
structure RCk where
  guard : Option (Arg × Bool)
  agg : Bool
  n : Nat
  a : Arg
  d : Arg

inductive RI where
  | i (d : RD) (o : RO)
  | g (a : Arg) (w : Bool) (d : RD) (o : RO)
  | ck (l : List RCk)

inductive RS where
  | ops (l : List RI)
  | cond (a : Arg) (x y : List RS)
  | block (id : Nat) (b : List RS)
  | loop (b : List RS)
  | exit (id : Nat)
  | ret

inductive RK where
  | ss (l : List RS)
  | ops (l : List RI)
  | blk (id : Nat)
  | lp (b : List RS)
  | halt (K : List Item)

inductive RRes where
  | v (j : Nat)
  | cell (agg : Bool) (n : Nat) (j : Nat)

/-! ### what they do -/
def ixaR (e : Option TypeId) (ar : Option (Nat × Nat)) (x k : AV) : Option AV :=
  match x, k with
  | .isl _ el es, .int _ k => if e = some el ∧ 0 ≤ k then (es[k.toNat]?).map fun e => .ip e 0 else none
  | .msl b o n el, .int _ k => if e = some el ∧ 0 ≤ k ∧ k < n then some (.ptr b (o + k.toNat) 0) else none
  | .ptr b i off, .int _ k => ar.bind fun q => if q.2 ≠ 0 ∧ 0 ≤ k ∧ k < q.1 then some (.ptr b i (off + k.toNat * q.2)) else none
  | .ip e off, .int _ k => ar.bind fun q => if q.2 ≠ 0 ∧ 0 ≤ k ∧ k < q.1 then some (.ip e (off + k.toNat * q.2)) else none
  | _, _ => none
def ixR (s : Bool) (ar : Option (Nat × Nat × Bool)) (x k : AV) : Option AV :=
  match x, k with
  | .str l, .int _ k => if s = true ∧ 0 ≤ k then (l[k.toNat]?).map fun c => .int .u8 c.toNat else none
  | .agg cs, .int _ k => ar.bind fun q => if q.2.1 ≠ 0 ∧ 0 ≤ k ∧ k < q.1 then ldA q.2.2 q.2.1 cs (k.toNat * q.2.1) else none
  | _, _ => none
def fitsR (s : Bool) (e : Option TypeId) : AV → Bool
  | .str _ => s
  | .isl _ el _ => e == some el
  | .msl _ _ _ el => e == some el
  | .nils => e.isSome
  | _ => false
def nilcR : AV → Option AV
  | .ptr b i off => some (.ptr b i off)
  | .tptr t b => some (.tptr t b)
  | .ip e off => some (.ip e off)
  | .fn f a c => some (.fn f a c)
  | .iface q v => some (.iface q v)
  | _ => none
def isIf : Kd → Bool
  | .iface => true
  | _ => false
def binR (kd : Kd) (ks : Option (List Kd)) (cy : Bool) (op : BinOp) (x y : AV) : Option AV :=
  match x, y with
  | .nili, .nili => if isIf kd && cy then (match op with | .eql => some (.bool true) | .neq => some (.bool false) | _ => none) else none
  | .agg xs, .agg ys => ks.bind fun ks => match op with
    | .eql => (eqCells ks xs ys).map fun b => .bool b
    | .neq => (eqCells ks xs ys).map fun b => .bool !b
    | _ => none
  | a, b => binA kd op a b
def pickR (c x y : AV) : Option AV := match c with
  | .bool v => some (if v then x else y)
  | _ => none
def mkiR (t : TypeId) (x : AV) : Option AV := if x.one then some (.iface t x) else match x with
  | .agg cs => some (.iface t (.agg cs))
  | _ => none
def tasR (as : TypeId) (ok : Bool) : AV → Option AV
  | .iface q v => if q = as then some (if ok then .tup [v, .bool true] else v) else none
  | _ => none
def extR (x : AV) (i : Nat) : Option AV := match x with
  | .tup vs => vs[i]?
  | _ => none
def fldR (agg : Bool) (n off : Nat) : AV → Option AV
  | .agg cs => ldA agg n cs off
  | _ => none
def mksR (e : TypeId) (z : List AV) (l c : AV) (h : AH) : Option (AV × AH) := match l, c with
  | .int _ n, .int _ m => if 0 ≤ n ∧ n = m ∧ n ≤ 100000 then some (.msl h.n 0 n.toNat e, h.push (List.replicate n.toNat z)) else none
  | _, _ => none

def evalR (V L : List AV) (h : AH) : RO → Option (AV × AH)
  | .mv x => some (arg V L x, h)
  | .pick c x y => (pickR (arg V L c) (arg V L x) (arg V L y)).map fun v => (v, h)
  | .build z pl parts => (fillA pl z (parts.map fun q => (q.1, arg V L q.2))).map fun cs => (.agg cs, h)
  | .nilc x => (nilcR (arg V L x)).map fun v => (v, h)
  | .bin kd op x y => (binA kd op (arg V L x) (arg V L y)).map fun v => (v, h)
  | .binG kd ks cy op x y => (binR kd ks cy op (arg V L x) (arg V L y)).map fun v => (v, h)
  | .un op x => (unA op (arg V L x)).map fun v => (v, h)
  | .conv kd x => (cvA kd (arg V L x)).map fun v => (v, h)
  | .mki t x => (mkiR t (arg V L x)).map fun v => (v, h)
  | .mkf g first captured => some (.fn g (first.map (arg V L)) (captured.map (arg V L)), h)
  | .slc s e x lo hi => if fitsR s e (arg V L x) then (sliceA (arg V L x) (lo.map (arg V L)) (hi.map (arg V L))).map fun v => (v, h) else none
  | .fad off x => (fldA off (arg V L x)).map fun v => (v, h)
  | .fld agg n off x => (fldR agg n off (arg V L x)).map fun v => (v, h)
  | .ixa e ar x k => (ixaR e ar (arg V L x) (arg V L k)).map fun v => (v, h)
  | .ix s ar x k => (ixR s ar (arg V L x) (arg V L k)).map fun v => (v, h)
  | .tas as ok x => (tasR as ok (arg V L x)).map fun v => (v, h)
  | .ext x i => (extR (arg V L x) i).map fun v => (v, h)
  | .len s e x => if fitsR s e (arg V L x) then (lenA (arg V L x)).map fun (n : Nat) => (i64 n, h) else none
  | .alloc z => some (.ptr h.n 0 0, h.push [z])
  | .talloc t z => some (.tptr t h.n, h.push [z])
  | .mm mx x y => (mmA mx (arg V L x) (arg V L y)).map fun v => (v, h)
  | .box n x => if (arg V L x).cells.all AV.one ∧ (arg V L x).cells.length = n then some (.ptr h.n 0 0, h.push [(arg V L x).cells]) else none
  | .tbox t n x => if (arg V L x).cells.all AV.one ∧ (arg V L x).cells.length = n then some (.tptr t h.n, h.push [(arg V L x).cells]) else none
  | .bsl mu e z n len parts => (fillE n (List.replicate len z) (parts.map fun q => (q.1, arg V L q.2))).map fun es =>
        if mu then (.msl h.n 0 len e, h.push es) else (.isl (some h.ids) e es, h.fresh len)
  | .load agg n x => (loadA agg n h (arg V L x)).map fun v => (v, h)
  | .store n a x => (storeA n h (arg V L a) (arg V L x)).map fun h' => (.junk, h')
  | .mks e z l c => mksR e z (arg V L l) (arg V L c) h
  | .app mu e x y => appendA mu e (arg V L x) (arg V L y) h
  | .apps mu e x y => appendS mu e (arg V L x) (arg V L y) h
  | .call _ _ => none
  | .pan _ => none

def guardR (V L : List AV) (a : Arg) (w : Bool) : Option Bool := match arg V L a with
  | .bool b => some (if w then b else !b)
  | .tup _ => some false
  | _ => none
def guardO (V L : List AV) : Option (Arg × Bool) → Option Bool
  | none => some true
  | some (a, w) => guardR V L a w
def chkR (V L : List AV) (h : AH) : List RCk → Prop
  | [] => True
  | q :: r => (match guardO V L q.guard with
      | some true => loadA q.agg q.n h (arg V L q.a) = some (arg V L q.d)
      | _ => True) ∧ chkR V L h r
def calleeR (V L : List AV) : RO → Option (FuncId × List AV)
  | .call f args => match arg V L f with
    | .fn g first captured => some (g, first ++ args.map (arg V L) ++ captured)
    | _ => none
  | _ => none

def panR (V L : List AV) : RO → Option AV
  | .pan x => match arg V L x with
    | .iface q v => some (.iface q v)
    | _ => none
  | _ => none

def putV (V : List AV) (v : AV) : RD → List AV
  | .v j => V.set j v
  | _ => V
def putL (L : List AV) (v : AV) : RD → List AV
  | .l => v :: L
  | _ => L

def exitR (id : Nat) : List RK → Option (List RK)
  | [] => none
  | .blk i :: k => if i = id then some k else exitR id k
  | .halt _ :: _ => none
  | _ :: k => exitR id k

open Classical in
noncomputable def runR (C : FuncId → List AV → AH → Option ((AV ⊕ AV) × AH)) (nv : Nat) (k : List RK) (V L : List AV) (h : AH) : Option (AEx × List AV × AH) :=
  match k with
  | [] => some (.ret, V, h)
  | .ss [] :: k => runR C nv k V L h
  | .ss (s :: l) :: k =>
    match s with
    | .ops is => runR C nv (.ops is :: .ss l :: k) V [] h
    | .cond a x y => match arg V [] a with
      | .bool b => if b then runR C nv (.ss x :: .ss l :: k) V [] h else runR C nv (.ss y :: .ss l :: k) V [] h
      | _ => none
    | .block id b => runR C nv (.ss b :: .blk id :: .ss l :: k) V L h
    | .loop b => runR C nv (.lp b :: .ss l :: k) V L h
    | .exit id => exitR id k >>= fun k' => runR C nv k' V L h
    | .ret => some (.ret, V, h)
  | .blk _ :: k => runR C nv k V L h
  | .halt K :: _ => some (.halt K, V, h)
  | .lp b :: k => runR C nv (.ss b :: .lp b :: k) (clearA nv V) L h
  | .ops [] :: k => runR C nv k V [] h
  | .ops (.ck l :: is) :: k => if chkR V L h l then runR C nv (.ops is :: k) V L h else none
  | .ops (.i d o :: is) :: k =>
   match panR V L o with
   | some v => some (.panic v, V, h)
   | none =>
    match calleeR V L o with
    | some (g, args) => C g args h >>= fun r => match r.1 with
      | .inl v => runR C nv (.ops is :: k) (putV V v d) (putL L v d) r.2
      | .inr v => some (.panic v, V, r.2)
    | none => evalR V L h o >>= fun r => runR C nv (.ops is :: k) (putV V r.1 d) (putL L r.1 d) r.2
  | .ops (.g a w d o :: is) :: k =>
    match guardR V L a w with
    | none => none
    | some false => runR C nv (.ops is :: k) (putV V (.tup []) d) (putL L (.tup []) d) h
    | some true =>
     match panR V L o with
     | some v => some (.panic v, V, h)
     | none =>
      match calleeR V L o with
      | some (g, args) => C g args h >>= fun r => match r.1 with
        | .inl v => runR C nv (.ops is :: k) (putV V v d) (putL L v d) r.2
        | .inr v => some (.panic v, V, r.2)
      | none => evalR V L h o >>= fun r => runR C nv (.ops is :: k) (putV V r.1 d) (putL L r.1 d) r.2
partial_fixpoint

/-! ### how they are made -/
section
variable (P : Program)
def findI (l : List Nat) (i : Nat) : Option Nat := go l 0
where go : List Nat → Nat → Option Nat
  | [], _ => none
  | x :: l, n => if x = i then some n else go l (n + 1)

def trArg (vm lm : List Nat) : Operand → Option Arg
  | .tmp i => match findI lm i with
    | some k => some (.l k)
    | none => (findI vm i).map .v
  | .const v => some (.c (constA v))
  | .func f => some (.c (.fn f [] []))
  | .global _ => none
def trArgs (vm lm : List Nat) : List Operand → Option (List Arg)
  | [] => some []
  | x :: l => (trArg vm lm x).bind fun a => (trArgs vm lm l).map (a :: ·)
def trParts (vm lm : List Nat) : List (Nat × Operand) → Option (List (Nat × Arg))
  | [] => some []
  | x :: l => (trArg vm lm x.2).bind fun a => (trParts vm lm l).map ((x.1, a) :: ·)
def trOpt (vm lm : List Nat) : Option Operand → Option (Option Arg)
  | none => some none
  | some x => (trArg vm lm x).map some

def simpleK : Kd → Bool
  | .iface | .agg | .other => false
  | _ => true
def isC : Operand → Bool
  | .const _ => true
  | _ => false

def trOp (mu : TypeId → Bool) (vm lm : List Nat) (o : Oper) : Option RO :=
  let A := trArg vm lm
  match o.op with
  | .move x => (A x).map .mv
  | .assign x => (A x).map .mv
  | .pick c x y => (A c).bind fun c => (A x).bind fun x => (A y).map fun y => .pick c x y
  | .build ty parts => (zeroA P ty).bind fun z => (trParts vm lm parts.toList).bind fun ps => match fieldsA P ty with
    | some pl => if pl.all (fun q => szA P q.2 != 0) then some (.build z (pl.map fun q => (q.1, szA P q.2)) ps) else none
    | none => (arrA P ty).bind fun q => if szA P q.2 = 0 then none else some (.build z ((List.range q.1).map fun i => (i * szA P q.2, szA P q.2)) ps)
  | .nilCheck x => (A x).map .nilc
  | .binOp op ty x y _ => (A x).bind fun x' => (A y).map fun y' => if simpleK (kindA P ty) then .bin (kindA P ty) op x' y' else .binG (kindA P ty) (flatK P ty) (isC y) op x' y'
  | .unOp op _ x => (A x).map (.un op)
  | .convert src dst x => if (P.underlying src).isNone then none else (A x).map (.conv (kindA P dst))
  | .makeInterface ty x => if plainT P ty = false then none else (A x).map (.mki ty)
  | .makeFunc f first captured => match f with
    | .func g => (trArgs vm lm first.toList).bind fun a => (trArgs vm lm captured.toList).map fun c => .mkf g a c
    | _ => none
  | .slice ty x lo hi mx => if mx.isSome then none else (A x).bind fun x => (trOpt vm lm lo).bind fun lo => (trOpt vm lm hi).map fun hi => .slc (isStrT P ty) (elemA P ty) x lo hi
  | .fieldAddr s x f => ((fieldsA P s).bind (·[f]?)).bind fun q => if szA P q.2 = 0 then none else (A x).map (.fad q.1)
  | .field s x f => ((fieldsA P s).bind (·[f]?)).bind fun q => if szA P q.2 = 0 ∨ (P.underlying q.2).isNone then none else (A x).map (.fld (aggA P q.2) (szA P q.2) q.1)
  | .indexAddr ty x ix => (A x).bind fun x => (A ix).map fun k => .ixa (elemA P ty) ((arrA P ty).map fun q => (q.1, szA P q.2)) x k
  | .index ty x ix => (A x).bind fun x => (A ix).map fun k => .ix (isStrT P ty) ((arrA P ty).bind fun q => if (P.underlying q.2).isSome then some (q.1, szA P q.2, aggA P q.2) else none) x k
  | .typeAssert x _ as ok => if plainT P as = true then (A x).map (.tas as ok) else none
  | .extract x i => (A x).map fun x => .ext x i
  | .call { callee := .builtin .len, args, argTypes } => match args.toList, argTypes.toList with
    | [x], ty :: _ => (A x).map (.len (isStrT P ty) (elemA P ty))
    | _, _ => none
  | .alloc e => (zeroA P e).map fun z => if mu e then .talloc e z else .alloc z
  | .box e x => (A x).map fun x => if mu e then .tbox e (szA P e) x else .box (szA P e) x
  | .buildSlice ty len parts => (elemA P ty).bind fun e => (zeroA P e).bind fun z => if len * szA P e ≤ 16777216 then (trParts vm lm parts.toList).map (.bsl (mu ty) e z (szA P e) len) else none
  | .load ty a => if (P.underlying ty).isNone then none else (A a).map (.load (aggA P ty) (szA P ty))
  | .store ty a x => if szA P ty = 0 then none else (A a).bind fun a => (A x).map (.store (szA P ty) a)
  | .makeSlice ty l c => (elemA P ty).bind fun e => (zeroA P e).bind fun z => (A l).bind fun l => (A c).map fun c => .mks e z l c
  | .call { callee := .builtin .append, args, argTypes } => match args.toList, argTypes.toList with
    | [x, y], [ty, ty'] => if ty = ty' then (elemA P ty).bind fun e => if (zeroA P e).isSome then (A x).bind fun x => (A y).map fun y => .app (mu ty) e x y else none
      else if isStrT P ty' then (elemA P ty).bind fun e => if u8OK P e then (A x).bind fun x => (A y).map fun y => .apps (mu ty) e x y else none else none
    | _, _ => none
  | .call { callee := .value f, args, .. } => (A f).bind fun f => (trArgs vm lm args.toList).map (.call f)
  | .panic x => (A x).map .pan
  | .call { callee := .builtin .min, args, .. } => match args.toList with
    | [x, y] => (A x).bind fun x => (A y).map (.mm false x)
    | _ => none
  | .call { callee := .builtin .max, args, .. } => match args.toList with
    | [x, y] => (A x).bind fun x => (A y).map (.mm true x)
    | _ => none
  | _ => none

def trGuard (vm lm : List Nat) (all : Array Oper) (o : Oper) : Option (Option (Arg × Bool)) :=
  match o.guard with
  | none => some none
  | some (j, want) => ((all[j]?).bind (·.dst)).bind fun d => (trArg vm lm (.tmp d)).map fun a => some (a, want)
def trCk (vm lm : List Nat) (all : Array Oper) (o : Oper) : Option RCk :=
  match o.op, o.dst with
  | .load ty a, some d => (trGuard vm lm all o).bind fun g => (trArg vm lm a).bind fun a => (trArg vm lm (.tmp d)).map fun d => ⟨g, aggA P ty, szA P ty, a, d⟩
  | _, _ => none
def trCks (vm lm : List Nat) (all : Array Oper) : List Oper → Option (List RCk)
  | [] => some []
  | o :: l => (trCk P vm lm all o).bind fun q => (trCks vm lm all l).map (q :: ·)
def trDst (n : Nat) (vm lm : List Nat) : Option Tmp → Option (RD × List Nat)
  | none => some (.n, lm)
  | some d => if n ≤ d ∨ (findI lm d).isSome then none else match findI vm d with
    | some j => some (.v j, lm)
    | none => some (.l, d :: lm)
def mkRI (g : Option (Arg × Bool)) (d : RD) (r : RO) : RI := match g with
  | none => .i d r
  | some (a, w) => .g a w d r
def addCk (c : List RCk) (is : List RI) : List RI := match c with
  | [] => is
  | q :: c => .ck (q :: c) :: is
def trOps (mu : TypeId → Bool) (n : Nat) (vm : List Nat) (all : Array Oper) : List Nat → List (Oper × List Oper) → Option (List RI)
  | _, [] => some []
  | lm, (o, ck) :: l => (trOp P mu vm lm o).bind fun r => (trGuard vm lm all o).bind fun g => (trDst n vm lm o.dst).bind fun d => (trCks P vm d.2 all ck).bind fun c => (trOps mu n vm all d.2 l).map fun is =>
    mkRI g d.1 r :: addCk c is
def trCode (mu : TypeId → Bool) (plan : Nat → List (Nat × List Nat)) (n : Nat) (vm : List Nat) : Code → List RS → Option (List RS)
  | .skip, r => some r
  | .label _, r => some r
  | .seq a b, r => (trCode mu plan n vm b r).bind fun r => trCode mu plan n vm a r
  | .cond c x y, r => (trArg vm [] c).bind fun c => (trCode mu plan n vm x []).bind fun x => (trCode mu plan n vm y []).map fun y => .cond c x y :: r
  | .block id b, r => (trCode mu plan n vm b []).map fun b => .block id b :: r
  | .loop b, r => (trCode mu plan n vm b []).map fun b => .loop b :: r
  | .exit id, r => some (.exit id :: r)
  | .ret, r => some (.ret :: r)
  | .region id ops d, r => (trOps P mu n vm ops [] (planA d ops (plan id))).map fun is => .ops is :: r
  | _, _ => none
def trRes (vm : List Nat) : List ResultVar → Option (List RRes)
  | [] => some []
  | .tmp i :: l => (findI vm i).bind fun j => (trRes vm l).map (.v j :: ·)
  | .cell i ty :: l => if (P.underlying ty).isNone then none else (findI vm i).bind fun j => (trRes vm l).map (.cell (aggA P ty) (szA P ty) j :: ·)
end

def resR (V : List AV) (h : AH) : List RRes → Option (List AV)
  | [] => some []
  | .v j :: rs => (resR V h rs).map fun l => V.getD j .junk :: l
  | .cell agg n j :: rs => (loadA agg n h (V.getD j .junk)).bind fun v => (resR V h rs).map fun l => v :: l

end Go.Proofs.YtngphebjmmencaaDoor
namespace Go.Proofs.YtngphebjmmencaaDoor
set_option linter.unusedSimpArgs false
set_option linter.unusedVariables false
open Go

structure RV (n : Nat) (vm lm : List Nat) (t V L : List AV) : Prop where
  len : t.length = n
  lv : V.length = vm.length
  ll : L.length = lm.length
  v : ∀ j s, vm[j]? = some s → s < n ∧ t.getD s .junk = V.getD j .junk
  l : ∀ j s, lm[j]? = some s → s < n ∧ t.getD s .junk = L.getD j .junk

section
variable {P : Program} {po : Pol} {f : FuncId} {n : Nat} {vm lm : List Nat} {t V L : List AV} {h : AH} {mu : TypeId → Bool}

theorem findI_go {i : Nat} : ∀ (l : List Nat) (m k : Nat), findI.go i l m = some k → m ≤ k ∧ l[k - m]? = some i
  | [], m, k, he => by simp [findI.go] at he
  | x :: l, m, k, he => by
    simp only [findI.go] at he
    split at he
    · rename_i hx
      injection he with he
      subst he
      exact ⟨Nat.le_refl _, by simp [hx]⟩
    · obtain ⟨h1, h2⟩ := findI_go l (m + 1) k he
      refine ⟨by omega, ?_⟩
      rw [show k - m = (k - (m + 1)) + 1 by omega, List.getElem?_cons_succ]
      exact h2
theorem findI_get {l : List Nat} {i k : Nat} (he : findI l i = some k) : l[k]? = some i := by simpa using (findI_go l 0 k he).2
theorem findI_none {i : Nat} : ∀ (l : List Nat) (m : Nat), findI.go i l m = none → i ∉ l
  | [], m, _ => by simp
  | x :: l, m, he => by
    simp only [findI.go] at he
    split at he
    · cases he
    · rename_i hx
      have := findI_none l (m + 1) he
      simp only [List.mem_cons, not_or]
      exact ⟨fun e => hx e.symm, this⟩

theorem trArg_sound (r : RV n vm lm t V L) {x : Operand} {a : Arg} (he : trArg vm lm x = some a) : evA t x = arg V L a := by
  cases x with
  | tmp i =>
    simp only [trArg] at he
    split at he
    · rename_i k hk
      injection he with he
      subst he
      exact (r.l k i (findI_get hk)).2
    · obtain ⟨j, hj, rfl⟩ := Option.map_eq_some_iff.1 he
      exact (r.v j i (findI_get hj)).2
  | const v => simp only [trArg, Option.some.injEq] at he; subst he; rfl
  | func g => simp only [trArg, Option.some.injEq] at he; subst he; rfl
  | global g => simp [trArg] at he
theorem trArgs_sound (r : RV n vm lm t V L) : ∀ {xs : List Operand} {as : List Arg}, trArgs vm lm xs = some as → xs.map (evA t) = as.map (arg V L)
  | [], as, he => by simp [trArgs] at he; subst he; rfl
  | x :: xs, as, he => by
    simp only [trArgs] at he
    obtain ⟨a, ha, he⟩ := Option.bind_eq_some_iff.1 he
    obtain ⟨as', has, rfl⟩ := Option.map_eq_some_iff.1 he
    simp [trArg_sound r ha, trArgs_sound r has]
theorem trParts_sound (r : RV n vm lm t V L) : ∀ {xs : List (Nat × Operand)} {as : List (Nat × Arg)}, trParts vm lm xs = some as → (xs.map fun q => (q.1, evA t q.2)) = as.map fun q => (q.1, arg V L q.2)
  | [], as, he => by simp [trParts] at he; subst he; rfl
  | x :: xs, as, he => by
    simp only [trParts] at he
    obtain ⟨a, ha, he⟩ := Option.bind_eq_some_iff.1 he
    obtain ⟨as', has, rfl⟩ := Option.map_eq_some_iff.1 he
    simp [trArg_sound r ha, trParts_sound r has]
theorem trOpt_sound (r : RV n vm lm t V L) {x : Option Operand} {a : Option Arg} (he : trOpt vm lm x = some a) : x.map (evA t) = a.map (arg V L) := by
  cases x with
  | none => simp [trOpt] at he; subst he; rfl
  | some x =>
    simp only [trOpt] at he
    obtain ⟨a, ha, rfl⟩ := Option.map_eq_some_iff.1 he
    simp [trArg_sound r ha]

theorem fits_eq (P : Program) (ty : TypeId) (x : AV) : fitsT P ty x = fitsR (isStrT P ty) (elemA P ty) x := by
  cases x <;> rfl
theorem ixa_eq (P : Program) (ty : TypeId) (x k : AV) : ixAddrA P ty x k = ixaR (elemA P ty) ((arrA P ty).map fun q => (q.1, szA P q.2)) x k := by
  cases x <;> cases k <;> first | rfl | (simp only [ixAddrA, ixaR]; cases arrA P ty <;> rfl)
theorem ix_eq (P : Program) (ty : TypeId) (x k : AV) : ixA P ty x k = ixR (isStrT P ty) ((arrA P ty).bind fun q => if (P.underlying q.2).isSome then some (q.1, szA P q.2, aggA P q.2) else none) x k := by
  cases x <;> cases k <;> first | rfl | skip
  simp only [ixA, ixR]
  cases arrA P ty with
  | none => rfl
  | some q => cases hu : (P.underlying q.2).isSome <;> simp [hu]
theorem binA_nil (kd : Kd) (op : BinOp) : binA kd op .nili .nili = none := by
  unfold binA
  simp only
  split <;> (cases kd <;> rfl)
theorem binA_agg (kd : Kd) (op : BinOp) (xs ys : List AV) : binA kd op (.agg xs) (.agg ys) = none := by
  unfold binA
  simp only
  split <;> (cases kd <;> rfl)

theorem trOp_sound (r : RV n vm lm t V L) {o : Oper} {ro : RO} (he : trOp P mu vm lm o = some ro) : evalOp P mu t h o = evalR V L h ro ∧ calleeA t o = calleeR V L ro := by
  unfold trOp at he
  simp only at he
  split at he
  case h_1 x ho =>
    obtain ⟨a, ha, rfl⟩ := Option.map_eq_some_iff.1 he
    exact ⟨by simp [evalOp, pureOp, ho, evalR, trArg_sound r ha], by simp [calleeA, calleeR, ho]⟩
  case h_2 x ho =>
    obtain ⟨a, ha, rfl⟩ := Option.map_eq_some_iff.1 he
    exact ⟨by simp [evalOp, pureOp, ho, evalR, trArg_sound r ha], by simp [calleeA, calleeR, ho]⟩
  case h_3 c x y ho =>
    obtain ⟨c', hc, he⟩ := Option.bind_eq_some_iff.1 he
    obtain ⟨x', hx, he⟩ := Option.bind_eq_some_iff.1 he
    obtain ⟨y', hy, rfl⟩ := Option.map_eq_some_iff.1 he
    refine ⟨?_, by simp [calleeA, calleeR, ho]⟩
    simp only [evalOp, pureOp, ho, evalR, trArg_sound r hc, trArg_sound r hx, trArg_sound r hy]
    rfl
  case h_4 ty parts ho =>
    obtain ⟨z, hz, he⟩ := Option.bind_eq_some_iff.1 he
    obtain ⟨ps, hps, he⟩ := Option.bind_eq_some_iff.1 he
    have hp := trParts_sound r hps
    split at he
    · rename_i pl hpl
      split at he
      · rename_i hall
        injection he with he
        subst he
        exact ⟨by simp only [evalOp, pureOp, ho, evalR, hz, hpl, Option.bind_some, hall, if_true, hp, Option.map_map]; rfl, by simp [calleeA, calleeR, ho]⟩
      · cases he
    · rename_i hpl
      obtain ⟨q, hq, he⟩ := Option.bind_eq_some_iff.1 he
      split at he
      · cases he
      · rename_i hnz
        injection he with he
        subst he
        exact ⟨by simp only [evalOp, pureOp, ho, evalR, hz, hpl, hq, Option.bind_some, hnz, if_false, hp, Option.map_map]; rfl, by simp [calleeA, calleeR, ho]⟩
  case h_5 x ho =>
    obtain ⟨a, ha, rfl⟩ := Option.map_eq_some_iff.1 he
    exact ⟨by simp only [evalOp, pureOp, ho, evalR, trArg_sound r ha]; rfl, by simp [calleeA, calleeR, ho]⟩
  case h_6 op ty x y yt ho =>
    obtain ⟨x', hx, he⟩ := Option.bind_eq_some_iff.1 he
    obtain ⟨y', hy, rfl⟩ := Option.map_eq_some_iff.1 he
    refine ⟨?_, by split <;> simp [calleeA, calleeR, ho]⟩
    have e1 : evalR V L h (if simpleK (kindA P ty) then .bin (kindA P ty) op x' y' else .binG (kindA P ty) (flatK P ty) (isC y) op x' y') =
        (if simpleK (kindA P ty) then binA (kindA P ty) op (arg V L x') (arg V L y') else binR (kindA P ty) (flatK P ty) (isC y) op (arg V L x') (arg V L y')).map fun v => (v, h) := by
      split <;> rfl
    rw [e1]
    have hfl : simpleK (kindA P ty) = true → flatK P ty = none := by
      intro hk
      unfold flatK
      split
      · rename_i fs hfs
        simp [kindA, hfs, simpleK] at hk
      · rfl
    have e2 : pureOp P t o = if simpleK (kindA P ty) then binA (kindA P ty) op (arg V L x') (arg V L y') else binR (kindA P ty) (flatK P ty) (isC y) op (arg V L x') (arg V L y') := by
      simp only [pureOp, ho, trArg_sound r hx, trArg_sound r hy]
      generalize arg V L x' = X
      generalize arg V L y' = Y
      generalize kindA P ty = kd at *
      generalize flatK P ty = ks at *
      cases hs : simpleK kd
      · simp only [Bool.false_eq_true, if_false]
        cases X <;> first | rfl | skip
        · cases Y <;> first | rfl | (cases kd <;> cases y <;> cases op <;> rfl)
        · cases Y <;> rfl
      · simp only [if_true]
        have h0 := hfl hs
        subst h0
        cases X <;> first | rfl | skip
        · cases Y <;> first | rfl | skip
          rw [binA_nil]
          cases kd <;> first | rfl | cases hs
        · cases Y <;> first | rfl | skip
          rw [binA_agg]
          rfl
    simp only [evalOp, ho]
    rw [e2]
  case h_7 op ty x ho =>
    obtain ⟨a, ha, rfl⟩ := Option.map_eq_some_iff.1 he
    exact ⟨by simp only [evalOp, pureOp, ho, evalR, trArg_sound r ha], by simp [calleeA, calleeR, ho]⟩
  case h_8 src dst x ho =>
    split at he
    · cases he
    · rename_i hn
      obtain ⟨a, ha, rfl⟩ := Option.map_eq_some_iff.1 he
      exact ⟨by simp only [evalOp, pureOp, ho, evalR, trArg_sound r ha, hn]; rfl, by simp [calleeA, calleeR, ho]⟩
  case h_9 ty x ho =>
    split at he
    · cases he
    · rename_i hn
      obtain ⟨a, ha, rfl⟩ := Option.map_eq_some_iff.1 he
      exact ⟨by simp only [evalOp, pureOp, ho, evalR, trArg_sound r ha, hn, if_false]; rfl, by simp [calleeA, calleeR, ho]⟩
  case h_10 g first captured ho =>
    split at he
    · obtain ⟨a, ha, he⟩ := Option.bind_eq_some_iff.1 he
      obtain ⟨c, hc, rfl⟩ := Option.map_eq_some_iff.1 he
      exact ⟨by simp [evalOp, pureOp, ho, evalR, trArgs_sound r ha, trArgs_sound r hc], by simp [calleeA, calleeR, ho]⟩
    · cases he
  case h_11 ty x lo hi mx ho =>
    split at he
    · cases he
    · rename_i hmx
      obtain ⟨a, ha, he⟩ := Option.bind_eq_some_iff.1 he
      obtain ⟨lo', hlo, he⟩ := Option.bind_eq_some_iff.1 he
      obtain ⟨hi', hhi, rfl⟩ := Option.map_eq_some_iff.1 he
      refine ⟨?_, by simp [calleeA, calleeR, ho]⟩
      simp only [evalOp, pureOp, ho, evalR, trArg_sound r ha, trOpt_sound r hlo, trOpt_sound r hhi, fits_eq]
      cases hf : fitsR (isStrT P ty) (elemA P ty) (arg V L a) <;> simp [hmx]
  case h_12 s x fi ho =>
    obtain ⟨q, hq, he⟩ := Option.bind_eq_some_iff.1 he
    split at he
    · cases he
    · rename_i hn
      obtain ⟨a, ha, rfl⟩ := Option.map_eq_some_iff.1 he
      exact ⟨by simp only [evalOp, pureOp, ho, evalR, trArg_sound r ha, hq, Option.bind_some, hn, if_false], by simp [calleeA, calleeR, ho]⟩
  case h_13 s x fi ho =>
    obtain ⟨q, hq, he⟩ := Option.bind_eq_some_iff.1 he
    split at he
    · cases he
    · rename_i hn
      obtain ⟨a, ha, rfl⟩ := Option.map_eq_some_iff.1 he
      exact ⟨by simp only [evalOp, pureOp, ho, evalR, trArg_sound r ha, hq, Option.bind_some, hn, if_false]; rfl, by simp [calleeA, calleeR, ho]⟩
  case h_14 ty x ix ho =>
    obtain ⟨a, ha, he⟩ := Option.bind_eq_some_iff.1 he
    obtain ⟨k, hk, rfl⟩ := Option.map_eq_some_iff.1 he
    exact ⟨by simp only [evalOp, pureOp, ho, evalR, trArg_sound r ha, trArg_sound r hk, ixa_eq], by simp [calleeA, calleeR, ho]⟩
  case h_15 ty x ix ho =>
    obtain ⟨a, ha, he⟩ := Option.bind_eq_some_iff.1 he
    obtain ⟨k, hk, rfl⟩ := Option.map_eq_some_iff.1 he
    exact ⟨by simp only [evalOp, pureOp, ho, evalR, trArg_sound r ha, trArg_sound r hk, ix_eq], by simp [calleeA, calleeR, ho]⟩
  case h_16 x xt as ok ho =>
    split at he
    · rename_i hp
      obtain ⟨a, ha, rfl⟩ := Option.map_eq_some_iff.1 he
      refine ⟨?_, by simp [calleeA, calleeR, ho]⟩
      simp only [evalOp, pureOp, ho, evalR, trArg_sound r ha, hp, true_and]
      rfl
    · cases he
  case h_17 x i ho =>
    obtain ⟨a, ha, rfl⟩ := Option.map_eq_some_iff.1 he
    exact ⟨by simp only [evalOp, pureOp, ho, evalR, trArg_sound r ha]; rfl, by simp [calleeA, calleeR, ho]⟩
  case h_18 args argTypes ho =>
    split at he
    · rename_i x ty tys e1 e2
      obtain ⟨a, ha, rfl⟩ := Option.map_eq_some_iff.1 he
      refine ⟨?_, by simp [calleeA, calleeR, ho]⟩
      simp only [evalOp, pureOp, ho, evalR, e1, e2, trArg_sound r ha, fits_eq]
      split <;> simp [Option.map_map, Function.comp_def]
    · cases he
  case h_19 e ho =>
    obtain ⟨z, hz, rfl⟩ := Option.map_eq_some_iff.1 he
    refine ⟨?_, ?_⟩
    · simp only [evalOp, ho, hz, Option.map_some]
      split <;> rfl
    · split <;> simp [calleeA, calleeR, ho]
  case h_20 e x ho =>
    obtain ⟨a, ha, rfl⟩ := Option.map_eq_some_iff.1 he
    refine ⟨?_, ?_⟩
    · simp only [evalOp, ho, trArg_sound r ha]
      split <;> split <;> simp_all [evalR]
    · split <;> simp [calleeA, calleeR, ho]
  case h_21 ty len parts ho =>
    obtain ⟨e, he1, he⟩ := Option.bind_eq_some_iff.1 he
    obtain ⟨z, hz, he⟩ := Option.bind_eq_some_iff.1 he
    split at he
    · rename_i hc
      obtain ⟨ps, hps, rfl⟩ := Option.map_eq_some_iff.1 he
      exact ⟨by simp only [evalOp, ho, evalR, he1, hz, Option.bind_some, if_pos hc, trParts_sound r hps], by simp [calleeA, calleeR, ho]⟩
    · cases he
  case h_22 ty a ho =>
    split at he
    · cases he
    · rename_i hn
      obtain ⟨a, ha, rfl⟩ := Option.map_eq_some_iff.1 he
      exact ⟨by simp only [evalOp, ho, evalR, trArg_sound r ha, hn, if_false]; rfl, by simp [calleeA, calleeR, ho]⟩
  case h_23 ty a x ho =>
    split at he
    · cases he
    · rename_i hn
      obtain ⟨a, ha, he⟩ := Option.bind_eq_some_iff.1 he
      obtain ⟨x, hx, rfl⟩ := Option.map_eq_some_iff.1 he
      exact ⟨by simp only [evalOp, ho, evalR, trArg_sound r ha, trArg_sound r hx, hn, if_false], by simp [calleeA, calleeR, ho]⟩
  case h_24 ty l c ho =>
    obtain ⟨e, he1, he⟩ := Option.bind_eq_some_iff.1 he
    obtain ⟨z, hz, he⟩ := Option.bind_eq_some_iff.1 he
    obtain ⟨a, ha, he⟩ := Option.bind_eq_some_iff.1 he
    obtain ⟨k, hk, rfl⟩ := Option.map_eq_some_iff.1 he
    exact ⟨by simp only [evalOp, ho, evalR, trArg_sound r ha, trArg_sound r hk, he1, hz, Option.bind_some]; rfl, by simp [calleeA, calleeR, ho]⟩
  case h_25 args argTypes ho =>
    split at he
    · rename_i x y ty ty' e1 e2
      split at he
      · rename_i ht
        obtain ⟨e, he1, he⟩ := Option.bind_eq_some_iff.1 he
        split at he
        · rename_i hz
          obtain ⟨a, ha, he⟩ := Option.bind_eq_some_iff.1 he
          obtain ⟨k, hk, rfl⟩ := Option.map_eq_some_iff.1 he
          exact ⟨by simp only [evalOp, ho, evalR, e1, e2, trArg_sound r ha, trArg_sound r hk, if_pos ht, he1, Option.bind_some, if_pos hz], by simp [calleeA, calleeR, ho]⟩
        · cases he
      · rename_i ht
        split at he
        · rename_i hst
          obtain ⟨e, he1, he⟩ := Option.bind_eq_some_iff.1 he
          split at he
          · rename_i h8
            obtain ⟨a, ha, he⟩ := Option.bind_eq_some_iff.1 he
            obtain ⟨k, hk, rfl⟩ := Option.map_eq_some_iff.1 he
            exact ⟨by simp only [evalOp, ho, evalR, e1, e2, trArg_sound r ha, trArg_sound r hk, if_neg ht, if_pos hst, he1, Option.bind_some, if_pos h8], by simp [calleeA, calleeR, ho]⟩
          · cases he
        · cases he
    · cases he
  case h_26 fo args aty ho =>
    obtain ⟨a, ha, he⟩ := Option.bind_eq_some_iff.1 he
    obtain ⟨as, has, rfl⟩ := Option.map_eq_some_iff.1 he
    refine ⟨by simp [evalOp, pureOp, ho, evalR], ?_⟩
    simp only [calleeA, calleeR, ho, trArg_sound r ha, trArgs_sound r has]
    rfl
  case h_27 x ho =>
    obtain ⟨a, ha, rfl⟩ := Option.map_eq_some_iff.1 he
    exact ⟨by simp [evalOp, pureOp, ho, evalR], by simp [calleeA, calleeR, ho]⟩
  case h_28 args _ ho =>
    split at he
    · rename_i x y e1
      obtain ⟨a, ha, he⟩ := Option.bind_eq_some_iff.1 he
      obtain ⟨k, hk, rfl⟩ := Option.map_eq_some_iff.1 he
      exact ⟨by simp only [evalOp, pureOp, ho, e1, evalR, trArg_sound r ha, trArg_sound r hk], by simp [calleeA, calleeR, ho]⟩
    · cases he
  case h_29 args _ ho =>
    split at he
    · rename_i x y e1
      obtain ⟨a, ha, he⟩ := Option.bind_eq_some_iff.1 he
      obtain ⟨k, hk, rfl⟩ := Option.map_eq_some_iff.1 he
      exact ⟨by simp only [evalOp, pureOp, ho, e1, evalR, trArg_sound r ha, trArg_sound r hk], by simp [calleeA, calleeR, ho]⟩
    · cases he
  case h_30 => cases he
theorem trOp_pan {o : Oper} {x : Arg} (he : trOp P mu vm lm o = some (.pan x)) : ∃ y, o.op = .panic y ∧ trArg vm lm y = some x := by
  unfold trOp at he
  simp only at he
  split at he
  case h_27 y ho =>
    obtain ⟨a, ha, e⟩ := Option.map_eq_some_iff.1 he
    injection e with e
    subst e
    exact ⟨y, ho, ha⟩
  all_goals
    exfalso
    try (cases he; done)
    try simp only [Option.map_eq_some_iff, Option.bind_eq_some_iff, reduceCtorEq, and_false, exists_false, exists_const] at he
  case h_4 =>
    obtain ⟨_, _, _, _, he⟩ := he
    split at he
    · split at he <;> cases he
    · obtain ⟨_, _, he⟩ := Option.bind_eq_some_iff.1 he
      split at he <;> cases he
  all_goals
    repeat' (first
      | (cases he; done)
      | split at he
      | (obtain ⟨_, _, he⟩ := he)
      | (simp only [Option.map_eq_some_iff, Option.bind_eq_some_iff, reduceCtorEq, and_false, exists_false, exists_const] at he))
theorem trPan_sound (r : RV n vm lm t V L) {o : Oper} {ro : RO} (he : trOp P mu vm lm o = some ro) : panA t o = panR V L ro := by
  cases ro with
  | pan x =>
    obtain ⟨y, h1, h2⟩ := trOp_pan he
    simp only [panA, h1, panR, trArg_sound r h2]
    rfl
  | _ =>
    have : panA t o = none := by
      unfold panA
      split
      · rename_i x ho
        unfold trOp at he
        rw [ho] at he
        simp only at he
        obtain ⟨a, ha, e⟩ := Option.map_eq_some_iff.1 he
        cases e
      · rfl
    rw [this]
    rfl
end
end Go.Proofs.YtngphebjmmencaaDoor
namespace Go.Proofs.YtngphebjmmencaaDoor
set_option linter.unusedSimpArgs false
set_option linter.unusedVariables false
open Go

section
variable {P : Program} {po : Pol} {f : FuncId} {n : Nat} {vm lm : List Nat} {t V L : List AV} {h : AH} {mu : TypeId → Bool} {plan : Nat → List (Nat × List Nat)}

theorem nodup_inj {l : List Nat} (h : l.Nodup) {i j s : Nat} (hi : l[i]? = some s) (hj : l[j]? = some s) : i = j := by
  obtain ⟨a1, a2⟩ := List.getElem?_eq_some_iff.1 hi
  obtain ⟨b1, b2⟩ := List.getElem?_eq_some_iff.1 hj
  have := List.pairwise_iff_getElem.1 h
  rcases Nat.lt_trichotomy i j with h | h | h
  · exact absurd (a2.trans b2.symm) (this i j a1 b1 h)
  · exact h
  · exact absurd (b2.trans a2.symm) (this j i b1 a1 h)
theorem trDst_sound (r : RV n vm lm t V L) (hnd : vm.Nodup) {dst : Option Tmp} {d : RD × List Nat} (he : trDst n vm lm dst = some d) (v : AV) : RV n vm d.2 (putA t dst v) (putV V v d.1) (putL L v d.1) := by
  cases dst with
  | none => simp only [trDst, Option.some.injEq] at he; subst he; exact r
  | some s =>
    simp only [trDst] at he
    split at he
    · cases he
    · rename_i hc
      simp only [not_or, Nat.not_le, Option.isSome_iff_ne_none, ne_eq, Classical.not_not] at hc
      obtain ⟨c1, c2⟩ := hc
      have hnl := findI_none lm 0 c2
      split at he
      · rename_i j hj
        injection he with he
        subst he
        have hj' := findI_get hj
        refine ⟨by simp [putA, r.len], by simp [putV, r.lv], r.ll, fun i q hq => ?_, fun i q hq => ?_⟩
        · obtain ⟨h1, h2⟩ := r.v i q hq
          refine ⟨h1, ?_⟩
          by_cases hij : i = j
          · subst hij
            rw [hj'] at hq
            injection hq with hq
            subst hq
            have hlt : i < V.length := by rw [r.lv]; exact (List.getElem?_eq_some_iff.1 hj').1
            rw [putA_eq rfl (by rw [r.len]; exact h1)]
            simp [putV, List.getD, hlt]
          · have hne : s ≠ q := by
              intro e
              subst e
              exact hij (nodup_inj hnd hq hj')
            rw [putA_ne (by simpa using hne), h2]
            simp [putV, List.getD, List.getElem?_set_ne (Ne.symm hij)]
        · obtain ⟨h1, h2⟩ := r.l i q hq
          refine ⟨h1, ?_⟩
          have hne : s ≠ q := fun e => hnl (by rw [e]; exact List.mem_of_getElem? hq)
          rw [putA_ne (by simpa using hne), h2]
          rfl
      · rename_i hj
        injection he with he
        subst he
        have hnv := findI_none vm 0 hj
        refine ⟨by simp [putA, r.len], r.lv, by simp [putL, r.ll], fun i q hq => ?_, fun i q hq => ?_⟩
        · obtain ⟨h1, h2⟩ := r.v i q hq
          have hne : s ≠ q := fun e => hnv (by rw [e]; exact List.mem_of_getElem? hq)
          exact ⟨h1, by rw [putA_ne (by simpa using hne), h2]; rfl⟩
        · cases i with
          | zero =>
            simp only [List.getElem?_cons_zero, Option.some.injEq] at hq
            subst hq
            exact ⟨c1, by rw [putA_eq rfl (by rw [r.len]; exact c1)]; rfl⟩
          | succ i =>
            simp only [List.getElem?_cons_succ] at hq
            obtain ⟨h1, h2⟩ := r.l i q hq
            have hne : s ≠ q := fun e => hnl (by rw [e]; exact List.mem_of_getElem? hq)
            exact ⟨h1, by rw [putA_ne (by simpa using hne), h2]; rfl⟩

theorem trGuard_sound (r : RV n vm lm t V L) {all : Array Oper} {o : Oper} {g : Option (Arg × Bool)} (he : trGuard vm lm all o = some g) : wantedA all t o = guardO V L g := by
  unfold trGuard at he
  split at he
  · rename_i hg
    injection he with he
    subst he
    simp [wantedA, hg, guardO]
  · rename_i j want hg
    obtain ⟨d, hd, he⟩ := Option.bind_eq_some_iff.1 he
    obtain ⟨a, ha, rfl⟩ := Option.map_eq_some_iff.1 he
    have := trArg_sound r ha
    simp only [evA] at this
    simp only [wantedA, hg, hd, this, guardO, guardR]
    rfl

theorem trCks_sound (r : RV n vm lm t V L) {all : Array Oper} : ∀ {l : List Oper} {c : List RCk}, trCks P vm lm all l = some c → chkR V L h c → chkA P all t h l
  | [], c, _, _ => trivial
  | o :: l, c, he, hc => by
    simp only [trCks] at he
    obtain ⟨q, hq, he⟩ := Option.bind_eq_some_iff.1 he
    obtain ⟨c', hc', rfl⟩ := Option.map_eq_some_iff.1 he
    obtain ⟨h1, h2⟩ := hc
    refine ⟨?_, trCks_sound r hc' h2⟩
    unfold trCk at hq
    split at hq
    · rename_i ty a d ho hd
      obtain ⟨g, hg, hq⟩ := Option.bind_eq_some_iff.1 hq
      obtain ⟨a', ha, hq⟩ := Option.bind_eq_some_iff.1 hq
      obtain ⟨d', hd', rfl⟩ := Option.map_eq_some_iff.1 hq
      rw [trGuard_sound r hg]
      have e1 := trArg_sound r ha
      have e2 := trArg_sound r hd'
      simp only [evA] at e2
      simp only at h1
      split at h1
      · rename_i hw
        rw [hw]
        simp only [ho, hd, e1, e2]
        exact h1
      · rename_i hw
        split
        · rename_i hw'
          exact absurd hw' hw
        · trivial
    · cases hq

def trL (P : Program) (mu : TypeId → Bool) (plan : Nat → List (Nat × List Nat)) (n : Nat) (vm : List Nat) : List Code → List RS → Option (List RS)
  | [], r => some r
  | c :: cs, r => (trL P mu plan n vm cs r).bind fun r => trCode P mu plan n vm c r

inductive HeadR (P : Program) (mu : TypeId → Bool) (plan : Nat → List (Nat × List Nat)) (n : Nat) (vm : List Nat) : Code → RS → Prop
  | cond (c : Operand) (x y : Code) (a : Arg) (xs ys : List RS) : trArg vm [] c = some a → trCode P mu plan n vm x [] = some xs → trCode P mu plan n vm y [] = some ys → HeadR P mu plan n vm (.cond c x y) (.cond a xs ys)
  | block (id : Nat) (b : Code) (bs : List RS) : trCode P mu plan n vm b [] = some bs → HeadR P mu plan n vm (.block id b) (.block id bs)
  | loop (b : Code) (bs : List RS) : trCode P mu plan n vm b [] = some bs → HeadR P mu plan n vm (.loop b) (.loop bs)
  | exit (id : Nat) : HeadR P mu plan n vm (.exit id) (.exit id)
  | ret : HeadR P mu plan n vm .ret .ret
  | region (id : Nat) (all : Array Oper) (d : Bool) (is : List RI) : trOps P mu n vm all [] (planA d all (plan id)) = some is → HeadR P mu plan n vm (.region id all d) (.ops is)

theorem trL_append (cs ds : List Code) (r : List RS) : trL P mu plan n vm (cs ++ ds) r = (trL P mu plan n vm ds r).bind fun r => trL P mu plan n vm cs r := by
  induction cs with
  | nil => simp only [List.nil_append, trL]; cases trL P mu plan n vm ds r <;> rfl
  | cons c cs ih => simp only [List.cons_append, trL, ih]; cases trL P mu plan n vm ds r <;> rfl

theorem head_code : ∀ (c : Code) (r l : List RS), trCode P mu plan n vm c r = some l →
    (l = r ∧ ∀ k t h, runK P po f (.code c :: k) t h = runK P po f k t h) ∨
    (∃ s l' c1 cs, l = s :: l' ∧ trL P mu plan n vm cs r = some l' ∧ HeadR P mu plan n vm c1 s ∧ ∀ k t h, runK P po f (.code c :: k) t h = runK P po f (.code c1 :: (cs.map .code ++ k)) t h) := by
  intro c
  induction c with
  | skip => intro r l he; simp only [trCode, Option.some.injEq] at he; exact .inl ⟨he.symm, fun k t h => runK_skip⟩
  | label i => intro r l he; simp only [trCode, Option.some.injEq] at he; exact .inl ⟨he.symm, fun k t h => runK_label⟩
  | seq a b iha ihb =>
    intro r l he
    simp only [trCode] at he
    obtain ⟨r1, h1, h2⟩ := Option.bind_eq_some_iff.1 he
    rcases iha r1 l h2 with ⟨e1, e2⟩ | ⟨s, l', c1, cs, e1, e2, e3, e4⟩
    · subst e1
      rcases ihb r l h1 with ⟨f1, f2⟩ | ⟨s, l', c1, cs, f1, f2, f3, f4⟩
      · exact .inl ⟨f1, fun k t h => by rw [runK_seq, e2, f2]⟩
      · exact .inr ⟨s, l', c1, cs, f1, f2, f3, fun k t h => by rw [runK_seq, e2, f4]⟩
    · refine .inr ⟨s, l', c1, cs ++ [b], e1, ?_, e3, fun k t h => ?_⟩
      · rw [trL_append]
        simp only [trL, Option.bind_some, h1, e2]
      · rw [runK_seq, e4]
        simp
  | cond c x y _ _ =>
    intro r l he
    simp only [trCode] at he
    obtain ⟨a, ha, he⟩ := Option.bind_eq_some_iff.1 he
    obtain ⟨xs, hx, he⟩ := Option.bind_eq_some_iff.1 he
    obtain ⟨ys, hy, rfl⟩ := Option.map_eq_some_iff.1 he
    exact .inr ⟨_, _, _, [], rfl, rfl, .cond _ _ _ _ _ _ ha hx hy, fun k t h => rfl⟩
  | block id b _ =>
    intro r l he
    simp only [trCode] at he
    obtain ⟨bs, hb, rfl⟩ := Option.map_eq_some_iff.1 he
    exact .inr ⟨_, _, _, [], rfl, rfl, .block _ _ _ hb, fun k t h => rfl⟩
  | loop b _ =>
    intro r l he
    simp only [trCode] at he
    obtain ⟨bs, hb, rfl⟩ := Option.map_eq_some_iff.1 he
    exact .inr ⟨_, _, _, [], rfl, rfl, .loop _ _ hb, fun k t h => rfl⟩
  | exit id => intro r l he; simp only [trCode, Option.some.injEq] at he; subst he; exact .inr ⟨_, _, _, [], rfl, rfl, .exit _, fun k t h => rfl⟩
  | ret => intro r l he; simp only [trCode, Option.some.injEq] at he; subst he; exact .inr ⟨_, _, _, [], rfl, rfl, .ret, fun k t h => rfl⟩
  | region id ops d =>
    intro r l he
    simp only [trCode] at he
    obtain ⟨is, his, rfl⟩ := Option.map_eq_some_iff.1 he
    exact .inr ⟨_, _, _, [], rfl, rfl, .region _ _ _ _ his, fun k t h => rfl⟩
  | _ => intro r l he; simp [trCode] at he

theorem head_list : ∀ (cs : List Code) (l : List RS), trL P mu plan n vm cs [] = some l →
    (l = [] ∧ ∀ k t h, runK P po f (cs.map .code ++ k) t h = runK P po f k t h) ∨
    (∃ s l' c1 cs', l = s :: l' ∧ trL P mu plan n vm cs' [] = some l' ∧ HeadR P mu plan n vm c1 s ∧ ∀ k t h, runK P po f (cs.map .code ++ k) t h = runK P po f (.code c1 :: (cs'.map .code ++ k)) t h) := by
  intro cs
  induction cs with
  | nil => intro l he; simp only [trL, Option.some.injEq] at he; exact .inl ⟨he.symm, fun k t h => rfl⟩
  | cons c cs ih =>
    intro l he
    simp only [trL] at he
    obtain ⟨r, h1, h2⟩ := Option.bind_eq_some_iff.1 he
    rcases head_code (po := po) (f := f) c r l h2 with ⟨e1, e2⟩ | ⟨s, l', c1, cs1, e1, e2, e3, e4⟩
    · subst e1
      rcases ih l h1 with ⟨f1, f2⟩ | ⟨s, l', c1, cs', f1, f2, f3, f4⟩
      · exact .inl ⟨f1, fun k t h => by simp only [List.map_cons, List.cons_append]; rw [e2, f2]⟩
      · exact .inr ⟨s, l', c1, cs', f1, f2, f3, fun k t h => by simp only [List.map_cons, List.cons_append]; rw [e2, f4]⟩
    · refine .inr ⟨s, l', c1, cs1 ++ cs, e1, ?_, e3, fun k t h => ?_⟩
      · rw [trL_append, h1]
        exact e2
      · simp only [List.map_cons, List.cons_append]
        rw [e4]
        simp

inductive KC (P : Program) (mu : TypeId → Bool) (plan : Nat → List (Nat × List Nat)) (n : Nat) (vm : List Nat) : List AItem → List RK → Prop
  | nil : KC P mu plan n vm [] []
  | ss (cs : List Code) (l : List RS) (k : List AItem) (rk : List RK) : trL P mu plan n vm cs [] = some l → KC P mu plan n vm k rk → KC P mu plan n vm (cs.map .code ++ k) (.ss l :: rk)
  | blk (id : Nat) (k : List AItem) (rk : List RK) : KC P mu plan n vm k rk → KC P mu plan n vm (.inBlock id :: k) (.blk id :: rk)
  | lp (c : Code) (b : List RS) (k : List AItem) (rk : List RK) : trCode P mu plan n vm c [] = some b → KC P mu plan n vm k rk → KC P mu plan n vm (.inLoop c :: k) (.lp b :: rk)
  | halt (K : List Item) (k : List AItem) (rk : List RK) : KC P mu plan n vm (.halt K :: k) (.halt K :: rk)

theorem exitA_codes {id : Nat} (cs : List Code) (k : List AItem) : exitA id (cs.map .code ++ k) = exitA id k := by
  induction cs with
  | nil => rfl
  | cons c cs ih => simp only [List.map_cons, List.cons_append, exitA]; exact ih
theorem exit_rel {id : Nat} {k : List AItem} {rk rk' : List RK} (hk : KC P mu plan n vm k rk) (he : exitR id rk = some rk') : ∃ k', exitA id k = some k' ∧ KC P mu plan n vm k' rk' := by
  induction hk with
  | nil => simp [exitR] at he
  | ss cs l k rk h1 h2 ih =>
    simp only [exitR] at he
    obtain ⟨k', e1, e2⟩ := ih he
    exact ⟨k', by rw [exitA_codes]; exact e1, e2⟩
  | blk i k rk h1 ih =>
    simp only [exitR] at he
    by_cases hi : i = id
    · rw [if_pos hi] at he
      injection he with he
      subst he
      exact ⟨k, by simp [exitA, hi], h1⟩
    · rw [if_neg hi] at he
      obtain ⟨k', e1, e2⟩ := ih he
      exact ⟨k', by simp [exitA, hi]; exact e1, e2⟩
  | lp c b k rk h1 h2 ih =>
    simp only [exitR] at he
    obtain ⟨k', e1, e2⟩ := ih he
    exact ⟨k', by simp only [exitA]; exact e1, e2⟩
  | halt K k rk => simp [exitR] at he

/-- what is shown of a run of steps -/
def ToK (P : Program) (po : Pol) (f : FuncId) (n : Nat) (vm : List Nat) (ak : List AItem) (t : List AV) (h : AH) (r : AEx × List AV × AH) : Prop :=
  ∃ t', runK P po f ak t h = some (r.1, t', r.2.2) ∧ RV n vm [] t' r.2.1 []

def MotR (P : Program) (po : Pol) (f : FuncId) (n : Nat) (vm : List Nat) (k : List RK) (V L : List AV) (h : AH) (r : AEx × List AV × AH) : Prop :=
  (∀ ak t, KC P (po.mu f) (po.plan f) n vm ak k → RV n vm [] t V [] → ToK P po f n vm ak t h r) ∧
  (∀ d all l is ak lm t k', k = .ops is :: k' → trOps P (po.mu f) n vm all lm l = some is → KC P (po.mu f) (po.plan f) n vm ak k' → RV n vm lm t V L → ToK P po f n vm (.ops d all l :: ak) t h r) ∧
  (∀ d all l is c ck ak lm t k', k = .ops (.ck c :: is) :: k' → trCks P vm lm all ck = some c → trOps P (po.mu f) n vm all lm l = some is → KC P (po.mu f) (po.plan f) n vm ak k' → RV n vm lm t V L →
    chkA P all t h ck ∧ ToK P po f n vm (.ops d all l :: ak) t h r)

theorem ToK.eq {ak ak' : List AItem} {t t' : List AV} {h h' : AH} {r : AEx × List AV × AH} (he : runK P po f ak t h = runK P po f ak' t' h') (hk : ToK P po f n vm ak' t' h' r) : ToK P po f n vm ak t h r := by
  obtain ⟨t2, h1, h2⟩ := hk
  exact ⟨t2, he.trans h1, h2⟩
theorem MotR.not_ops {k : List RK} {V L : List AV} {h : AH} {r : AEx × List AV × AH} (hno : ∀ is k', k ≠ .ops is :: k') (hk : ∀ ak t, KC P (po.mu f) (po.plan f) n vm ak k → RV n vm [] t V [] → ToK P po f n vm ak t h r) : MotR P po f n vm k V L h r :=
  ⟨hk, fun d all l is ak lm t k' he => absurd he (hno _ _), fun d all l is c ck ak lm t k' he => absurd he (hno _ _)⟩
theorem RV.drop {L : List AV} {lm : List Nat} (r : RV n vm lm t V L) : RV n vm [] t V [] := ⟨r.len, r.lv, rfl, r.v, fun j s hs => by simp at hs⟩
theorem RV.clear {nk nr : Nat} (r : RV n vm [] t V []) (h1 : ∀ j s, vm[j]? = some s → (j < nr ↔ s < nk)) : RV n vm [] (clearA nk t) (clearA nr V) [] := by
  refine ⟨by rw [← r.len, clearA]; simp; omega, by rw [← r.lv, clearA]; simp; omega, rfl, fun j s hs => ?_, fun j s hs => by simp at hs⟩
  obtain ⟨a1, a2⟩ := r.v j s hs
  refine ⟨a1, ?_⟩
  have hj : j < V.length := by rw [r.lv]; exact (List.getElem?_eq_some_iff.1 hs).1
  have hs' : s < t.length := by rw [r.len]; exact a1
  have get : ∀ (n : Nat) (x : List AV) (i : Nat), i < x.length → (clearA n x).getD i .junk = if i < n then x.getD i .junk else .junk := by
    intro n x i hi
    unfold clearA
    by_cases hin : i < n
    · have : i < (x.take n).length := by simp; omega
      rw [if_pos hin, List.getD, List.getElem?_append_left this, List.getElem?_take]
      simp [hin, List.getD]
    · rw [if_neg hin, List.getD, List.getElem?_append_right (by simp; omega)]
      simp only [List.getElem?_replicate]
      split <;> rfl
  rw [get _ _ _ hs', get _ _ _ hj]
  by_cases hlt : j < nr
  · rw [if_pos hlt, if_pos ((h1 j s hs).1 hlt), a2]
  · rw [if_neg hlt, if_neg (fun x => hlt ((h1 j s hs).2 x))]
end
end Go.Proofs.YtngphebjmmencaaDoor
namespace Go.Proofs.YtngphebjmmencaaDoor
set_option linter.unusedSimpArgs false
set_option linter.unusedVariables false
open Go

/-- the end of a call, of a list of steps -/
noncomputable def cFR (p : Bool) (rs : List RRes) (h0 : AH) : Option (AEx × List AV × AH) → Option ((AV ⊕ AV) × AH)
  | some (.ret, V, h) => cF.cR p h0 h ((resR V h rs).map oneA)
  | some (.panic v, _, h) => fgA p h0 (.inr v, h)
  | some (.halt _, _, _) => none
  | none => none

section
variable {P : Program} {po : Pol} {f : FuncId} {n nv : Nat} {vm lm : List Nat} {t V L : List AV} {h : AH}

theorem motR_ops {d : RD} {is : List RI} {k' : List RK} {o : Oper} {c : List RCk} {ck : List Oper} {l : List (Oper × List Oper)} {all : Array Oper} {lm2 : List Nat} {dr : Bool} {ak : List AItem} {v : AV} {h' : AH} {r : AEx × List AV × AH}
    (hnd : vm.Nodup) (hd : trDst n vm lm o.dst = some (d, lm2)) (hc : trCks P vm lm2 all ck = some c) (his : trOps P (po.mu f) n vm all lm2 l = some is) (hk : KC P (po.mu f) (po.plan f) n vm ak k') (rv : RV n vm lm t V L)
    (hm : MotR P po f n vm (.ops (addCk c is) :: k') (putV V v d) (putL L v d) h' r) :
    chkA P all (putA t o.dst v) h' ck ∧ ToK P po f n vm (.ops dr all l :: ak) (putA t o.dst v) h' r := by
  have rv' := trDst_sound rv hnd hd v
  cases c with
  | nil =>
    refine ⟨trCks_sound rv' hc trivial, hm.2.1 dr all l is ak _ _ k' rfl his hk rv'⟩
  | cons q c => exact hm.2.2 dr all l is (q :: c) ck ak _ _ k' rfl hc his hk rv'

theorem trOps_cons {mu : TypeId → Bool} {all : Array Oper} {lm : List Nat} {l : List (Oper × List Oper)} {x : RI} {is : List RI} (he : trOps P mu n vm all lm l = some (x :: is)) :
    ∃ o ck l' ro g d lm2 c is', l = (o, ck) :: l' ∧ trOp P mu vm lm o = some ro ∧ trGuard vm lm all o = some g ∧ trDst n vm lm o.dst = some (d, lm2) ∧ trCks P vm lm2 all ck = some c ∧ trOps P mu n vm all lm2 l' = some is' ∧
      x = mkRI g d ro ∧ is = addCk c is' := by
  cases l with
  | nil => simp [trOps] at he
  | cons q l' =>
    obtain ⟨o, ck⟩ := q
    simp only [trOps] at he
    obtain ⟨ro, h1, he⟩ := Option.bind_eq_some_iff.1 he
    obtain ⟨g, h2, he⟩ := Option.bind_eq_some_iff.1 he
    obtain ⟨⟨d, lm2⟩, h3, he⟩ := Option.bind_eq_some_iff.1 he
    obtain ⟨c, h4, he⟩ := Option.bind_eq_some_iff.1 he
    obtain ⟨is', h5, he⟩ := Option.map_eq_some_iff.1 he
    simp only [List.cons.injEq] at he
    exact ⟨o, ck, l', ro, g, d, lm2, c, is', rfl, h1, h2, h3, h4, h5, he.1.symm, he.2.symm⟩

theorem run_op {dr : Bool} {all : Array Oper} {o : Oper} {ck : List Oper} {l : List (Oper × List Oper)} {ak : List AItem} {v : AV} {h' : AH} (hw : wantedA all t o = some true) (hp : panA t o = none) (hc : calleeA t o = none) (he : evalOp P (po.mu f) t h o = some (v, h')) (hck : chkA P all (putA t o.dst v) h' ck) :
    runK P po f (.ops dr all ((o, ck) :: l) :: ak) t h = runK P po f (.ops dr all l :: ak) (putA t o.dst v) h' := by
  rw [runK_cons, hw, cW_true, hp, cP_none, hc, cC_none, he, cO_some, cK_yes hck]
theorem run_call {dr : Bool} {all : Array Oper} {o : Oper} {ck : List Oper} {l : List (Oper × List Oper)} {ak : List AItem} {g : FuncId} {args : List AV} {v : AV} {h' : AH} (hw : wantedA all t o = some true) (hp : panA t o = none) (hc : calleeA t o = some (g, args)) (he : runF P po g args h = some (.inl v, h')) (hck : chkA P all (putA t o.dst v) h' ck) :
    runK P po f (.ops dr all ((o, ck) :: l) :: ak) t h = runK P po f (.ops dr all l :: ak) (putA t o.dst v) h' := by
  rw [runK_cons, hw, cW_true, hp, cP_none, hc, cC_some, he, cCl_ret, cK_yes hck]
theorem run_stop {dr : Bool} {all : Array Oper} {o : Oper} {ck : List Oper} {l : List (Oper × List Oper)} {ak : List AItem} {g : FuncId} {args : List AV} {v : AV} {h' : AH} (hw : wantedA all t o = some true) (hp : panA t o = none) (hc : calleeA t o = some (g, args)) (he : runF P po g args h = some (.inr v, h')) :
    runK P po f (.ops dr all ((o, ck) :: l) :: ak) t h = some (.panic v, t, h') := by
  rw [runK_cons, hw, cW_true, hp, cP_none, hc, cC_some, he, cCl_panic]
theorem run_skip {dr : Bool} {all : Array Oper} {o : Oper} {ck : List Oper} {l : List (Oper × List Oper)} {ak : List AItem} (hw : wantedA all t o = some false) :
    runK P po f (.ops dr all ((o, ck) :: l) :: ak) t h = runK P po f (.ops dr all l :: ak) (putA t o.dst (.tup [])) h := by
  rw [runK_cons, hw, cW_false]

theorem runR_mot (hnd : vm.Nodup) (hcl : ∀ j s, vm[j]? = some s → (j < nv ↔ s < po.nv f)) :
    ∀ (k : List RK) (V L : List AV) (h : AH) (r : AEx × List AV × AH), runR (runF P po) nv k V L h = some r → MotR P po f n vm k V L h r := by
  refine runR.partial_correctness (runF P po) nv (MotR P po f n vm) fun run ih k V L h r hr => ?_
  have wanted : ∀ {d : RD} {ro : RO} {is : List RI} {k' : List RK}, (match panR V L ro with
      | some v => some (.panic v, V, h)
      | none => match calleeR V L ro with
      | some (g, args) => runF P po g args h >>= fun r => match r.1 with
        | .inl v => run (.ops is :: k') (putV V v d) (putL L v d) r.2
        | .inr v => some (.panic v, V, r.2)
      | none => evalR V L h ro >>= fun r => run (.ops is :: k') (putV V r.1 d) (putL L r.1 d) r.2) = some r →
      ∀ {all o ck l lm lm2 c is' ak t dr}, trOp P (po.mu f) vm lm o = some ro → trDst n vm lm o.dst = some (d, lm2) → trCks P vm lm2 all ck = some c → trOps P (po.mu f) n vm all lm2 l = some is' → is = addCk c is' →
      KC P (po.mu f) (po.plan f) n vm ak k' → RV n vm lm t V L → wantedA all t o = some true → ToK P po f n vm (.ops dr all ((o, ck) :: l) :: ak) t h r := by
    intro d ro is k' hr all o ck l lm lm2 c is' ak t dr h1 h2 h3 h4 h5 hk rv hw
    obtain ⟨e1, e2⟩ := trOp_sound (h := h) rv h1
    have e0 := trPan_sound rv h1
    split at hr
    · rename_i v hpa
      injection hr with hr
      subst hr
      exact ⟨t, by rw [runK_cons, hw, cW_true, e0, hpa, cP_some], rv.drop⟩
    rename_i hpn
    have e0 := e0.trans hpn
    split at hr
    · rename_i g args hcl'
      obtain ⟨⟨x, h'⟩, hx, hr⟩ := Option.bind_eq_some_iff.1 hr
      cases x with
      | inl v =>
        simp only at hr
        subst h5
        have hm := ih _ _ _ _ _ hr
        obtain ⟨m1, m2⟩ := motR_ops (dr := dr) hnd h2 h3 h4 hk rv hm
        exact m2.eq (run_call hw e0 (e2.trans hcl') hx m1)
      | inr v =>
        simp only at hr
        injection hr with hr
        subst hr
        exact ⟨t, run_stop hw e0 (e2.trans hcl') hx, rv.drop⟩
    · rename_i hcl'
      obtain ⟨⟨v, h'⟩, hx, hr⟩ := Option.bind_eq_some_iff.1 hr
      simp only at hr
      subst h5
      have hm := ih _ _ _ _ _ hr
      obtain ⟨m1, m2⟩ := motR_ops (dr := dr) hnd h2 h3 h4 hk rv hm
      exact m2.eq (run_op hw e0 (e2.trans hcl') (e1.trans hx) m1)
  split at hr
  · injection hr with hr
    subst hr
    refine MotR.not_ops (by simp) fun ak t hk rv => ?_
    cases hk
    exact ⟨t, runK_nil, rv⟩
  · rename_i k
    refine MotR.not_ops (by simp) fun ak t hk rv => ?_
    cases hk with
    | ss cs _ k0 _ htr hk =>
      rcases head_list (po := po) (f := f) cs [] htr with ⟨_, e2⟩ | ⟨s, l', c1, cs', e1, _⟩
      · exact ((ih _ _ _ _ _ hr).1 _ _ hk rv.drop).eq (e2 _ _ _)
      · cases e1
  · rename_i s l k
    refine MotR.not_ops (by simp) fun ak t hk rv => ?_
    cases hk with
    | ss cs _ k0 _ htr hk =>
      rcases head_list (po := po) (f := f) cs (s :: l) htr with ⟨e1, _⟩ | ⟨s', l', c1, cs', e1, e2, e3, e4⟩
      · cases e1
      · injection e1 with e1 e1'
        subst e1; subst e1'
        refine ToK.eq (e4 _ _ _) ?_
        have hkc : KC P (po.mu f) (po.plan f) n vm (cs'.map .code ++ k0) (.ss l :: k) := .ss cs' l k0 k e2 hk
        cases e3 with
        | region id all d is hreg =>
          exact ((ih _ _ _ _ _ hr).2.1 d all _ is _ [] t _ rfl hreg hkc rv).eq runK_region
        | cond c x y a xs ys ha hx hy =>
          simp only at hr
          have hev := trArg_sound rv ha
          split at hr
          · rename_i b hb
            have hev2 : evA t c = .bool b := hev.trans hb
            cases b with
            | true =>
              simp only [if_true] at hr
              refine ToK.eq (by rw [runK_cond, hev2, cCd_true]) ((ih _ _ _ _ _ hr).1 (.code x :: (cs'.map .code ++ k0)) t ?_ rv)
              exact .ss [x] xs _ _ (by simp [trL, hx]) hkc
            | false =>
              simp only [Bool.false_eq_true, if_false] at hr
              refine ToK.eq (by rw [runK_cond, hev2, cCd_false]) ((ih _ _ _ _ _ hr).1 (.code y :: (cs'.map .code ++ k0)) t ?_ rv)
              exact .ss [y] ys _ _ (by simp [trL, hy]) hkc
          · cases hr
        | block id b bs hb =>
          refine ToK.eq runK_block ((ih _ _ _ _ _ hr).1 (.code b :: .inBlock id :: (cs'.map .code ++ k0)) t ?_ rv)
          exact .ss [b] bs _ _ (by simp [trL, hb]) (.blk id _ _ hkc)
        | loop b bs hb =>
          exact ToK.eq runK_loop ((ih _ _ _ _ _ hr).1 (.inLoop b :: (cs'.map .code ++ k0)) t (.lp b bs _ _ hb hkc) rv)
        | exit id =>
          obtain ⟨rk', h1, hr⟩ := Option.bind_eq_some_iff.1 hr
          obtain ⟨k', h2, h3⟩ := exit_rel hkc (by simpa [exitR] using h1 : exitR id (.ss l :: k) = some rk')
          exact ToK.eq (by rw [runK_exit, h2, cE_some]) ((ih _ _ _ _ _ hr).1 k' t h3 rv)
        | ret =>
          injection hr with hr
          subst hr
          exact ⟨t, runK_ret, rv⟩
  · rename_i id k
    refine MotR.not_ops (by simp) fun ak t hk rv => ?_
    cases hk with
    | blk _ k0 _ hk => exact ToK.eq runK_inBlock ((ih _ _ _ _ _ hr).1 _ _ hk rv)
  · rename_i KH k
    injection hr with hr
    subst hr
    refine MotR.not_ops (by simp) fun ak t hk rv => ?_
    cases hk with
    | halt _ k0 _ => exact ⟨t, runK_halt, rv⟩
  · rename_i b k
    refine MotR.not_ops (by simp) fun ak t hk rv => ?_
    cases hk with
    | lp c _ k0 _ hb hk =>
      refine ToK.eq runK_inLoop ((ih _ _ _ _ _ hr).1 (.code c :: .inLoop c :: k0) _ ?_ (rv.clear hcl))
      exact .ss [c] b _ _ (by simp [trL, hb]) (.lp c b _ _ hb hk)
  · rename_i k
    refine ⟨fun ak t hk rv => (by cases hk), fun dr all l is ak lm t k' he htr hk rv => ?_, fun dr all l is c ck ak lm t k' he => (by cases he)⟩
    injection he with he1 he2
    injection he1 with he1
    subst he1; subst he2
    cases l with
    | nil => exact ToK.eq runK_ops_nil ((ih _ _ _ _ _ hr).1 _ _ hk rv.drop)
    | cons q l =>
      obtain ⟨o, ck⟩ := q
      simp only [trOps] at htr
      obtain ⟨ro, h1, htr⟩ := Option.bind_eq_some_iff.1 htr
      obtain ⟨g, h2, htr⟩ := Option.bind_eq_some_iff.1 htr
      obtain ⟨⟨d, lm2⟩, h3, htr⟩ := Option.bind_eq_some_iff.1 htr
      obtain ⟨c, h4, htr⟩ := Option.bind_eq_some_iff.1 htr
      obtain ⟨is', h5, htr⟩ := Option.map_eq_some_iff.1 htr
      cases htr
  · rename_i l is k
    split at hr
    · rename_i hck
      refine ⟨fun ak t hk rv => (by cases hk), fun dr all l2 is2 ak lm t k' he htr hk rv => ?_, fun dr all l2 is2 c ck ak lm t k' he hc htr hk rv => ?_⟩
      · injection he with he1 he2
        injection he1 with he1
        subst he1; subst he2
        obtain ⟨o, ck, l', ro, g, d, lm2, c, is', _, _, _, _, _, _, hx, _⟩ := trOps_cons htr
        cases g <;> cases hx
      · injection he with he1 he2
        injection he1 with he1
        injection he1 with he0 he1
        injection he0 with he0
        subst he0; subst he1; subst he2
        exact ⟨trCks_sound rv hc hck, (ih _ _ _ _ _ hr).2.1 dr all l2 is ak lm t _ rfl htr hk rv⟩
    · cases hr
  · rename_i d ro is k
    refine ⟨fun ak t hk rv => (by cases hk), fun dr all l is2 ak lm t k' he htr hk rv => ?_, fun dr all l is2 c ck ak lm t k' he => (by cases he)⟩
    injection he with he1 he2
    injection he1 with he1
    subst he1; subst he2
    obtain ⟨o, ck, l', ro', g, d', lm2, c, is', rfl, h1, h2, h3, h4, h5, hx, h6⟩ := trOps_cons htr
    cases g with
    | some g => cases hx
    | none =>
      injection hx with hx1 hx2
      subst hx1; subst hx2
      exact wanted hr h1 h3 h4 h5 h6 hk rv (by rw [trGuard_sound rv h2]; rfl)
  · rename_i a w d ro is k
    refine ⟨fun ak t hk rv => (by cases hk), fun dr all l is2 ak lm t k' he htr hk rv => ?_, fun dr all l is2 c ck ak lm t k' he => (by cases he)⟩
    injection he with he1 he2
    injection he1 with he1
    subst he1; subst he2
    obtain ⟨o, ck, l', ro', g, d', lm2, c, is', rfl, h1, h2, h3, h4, h5, hx, h6⟩ := trOps_cons htr
    cases g with
    | none => cases hx
    | some g =>
      injection hx with hx1 hx2 hx3 hx4
      obtain ⟨ga, gw⟩ := g
      simp only at hx1 hx2
      subst hx1; subst hx2; subst hx3; subst hx4
      have hg := trGuard_sound rv h2
      simp only [guardO] at hg
      split at hr
      · cases hr
      · rename_i hgf
        subst h6
        obtain ⟨_, m2⟩ := motR_ops (dr := dr) hnd h3 h4 h5 hk rv (ih _ _ _ _ _ hr)
        exact m2.eq (run_skip (hg.trans hgf))
      · rename_i hgt
        exact wanted hr h1 h3 h4 h5 h6 hk rv (hg.trans hgt)

theorem resR_sound (rv : RV n vm [] t V []) : ∀ {l : List ResultVar} {rs : List RRes}, trRes P vm l = some rs → resL P t h l = resR V h rs
  | [], rs, he => by simp only [trRes, Option.some.injEq] at he; subst he; rfl
  | .tmp i :: l, rs, he => by
    simp only [trRes] at he
    obtain ⟨j, hj, he⟩ := Option.bind_eq_some_iff.1 he
    obtain ⟨rs', hrs, rfl⟩ := Option.map_eq_some_iff.1 he
    simp only [resL, resR, resR_sound rv hrs, (rv.v j i (findI_get hj)).2]
  | .cell i ty :: l, rs, he => by
    simp only [trRes] at he
    split at he
    · cases he
    · rename_i hn
      obtain ⟨j, hj, he⟩ := Option.bind_eq_some_iff.1 he
      obtain ⟨rs', hrs, rfl⟩ := Option.map_eq_some_iff.1 he
      simp only [resL, resR, resR_sound rv hrs, (rv.v j i (findI_get hj)).2, if_neg hn]

/-- variables: the arguments first; those that stay over a loop's round ahead of the others -/
def okVm (a n nk nv : Nat) (vm : List Nat) : Bool :=
  decide (a ≤ vm.length ∧ a ≤ n) && (List.range vm.length).all fun j => let s := vm.getD j 0
    decide (s < n) && (decide (j < nv) == decide (s < nk)) && (if j < a ∨ s < a then s == j else true) && (List.range j).all fun i => vm.getD i 0 != s

/-- a function is a list of steps -/
def FnR (P : Program) (po : Pol) (g : FuncId) (a nv : Nat) (vm : List Nat) (ss : List RS) (rs : List RRes) (p : Bool) : Prop :=
  ∃ fn c, P.funcs[g]? = some fn ∧ fn.body = some c ∧ po.ext g = none ∧ po.use g = true ∧ po.pure g = p ∧ trCode P (po.mu g) (po.plan g) fn.ntmps vm c [] = some ss ∧ okVm a fn.ntmps (po.nv g) nv vm = true ∧ trRes P vm fn.results.toList = some rs

theorem runF_R {g : FuncId} {a : Nat} {ss : List RS} {rs : List RRes} {p : Bool} {args : List AV} {q : (AV ⊕ AV) × AH} (hf : FnR P po g a nv vm ss rs p) (ha : args.length = a)
    (hr : cFR p rs h (runR (runF P po) nv [.ss ss] (args ++ List.replicate (vm.length - args.length) .junk) [] h) = some q) : runF P po g args h = some q := by
  obtain ⟨fn, c, h1, h2, h3, h4, h5, h6, h7, h8⟩ := hf
  rw [runF_body h3 h1 h2 h4 h5]
  unfold okVm at h7
  simp only [Bool.and_eq_true, decide_eq_true_eq, List.all_eq_true, List.mem_range, beq_iff_eq, bne_iff_ne, ne_eq] at h7
  obtain ⟨⟨a1, a2⟩, a3⟩ := h7
  have get : ∀ j s, vm[j]? = some s → j < vm.length ∧ vm.getD j 0 = s := fun j s hj => ⟨(List.getElem?_eq_some_iff.1 hj).1, by simp [List.getD, hj]⟩
  have hnd : vm.Nodup := by
    rw [List.nodup_iff_pairwise_ne, List.pairwise_iff_getElem]
    intro i j hi hj hij e
    have := (a3 j hj).2 i hij
    apply this
    simp [List.getD, hi, hj, e]
  have hcl : ∀ j s, vm[j]? = some s → (j < nv ↔ s < po.nv g) := by
    intro j s hj
    obtain ⟨g1, g2⟩ := get j s hj
    have := (a3 j g1).1.1.2
    rw [g2] at this
    exact decide_eq_decide.1 this
  have rv : RV fn.ntmps vm [] (args ++ List.replicate (fn.ntmps - args.length) .junk) (args ++ List.replicate (vm.length - args.length) .junk) [] := by
    refine ⟨by simp; omega, by simp; omega, rfl, fun j s hj => ?_, fun j s hj => by simp at hj⟩
    obtain ⟨g1, g2⟩ := get j s hj
    obtain ⟨⟨⟨b1, _⟩, b2⟩, _⟩ := a3 j g1
    rw [g2] at b1 b2
    refine ⟨b1, ?_⟩
    by_cases hc : j < a ∨ s < a
    · rw [if_pos hc] at b2
      have : s = j := by simpa using b2
      subst this
      have hlt : s < args.length := by omega
      simp [List.getD, List.getElem?_append_left hlt]
    · have c1 : ¬ j < args.length := by omega
      have c2 : ¬ s < args.length := by omega
      simp only [List.getD, List.getElem?_append_right (Nat.not_lt.1 c1), List.getElem?_append_right (Nat.not_lt.1 c2), List.getElem?_replicate]
      split <;> split <;> rfl
  generalize hrun : runR (runF P po) nv [.ss ss] (args ++ List.replicate (vm.length - args.length) .junk) [] h = x at hr
  cases x with
  | none => cases hr
  | some r =>
    have hm := (runR_mot (n := fn.ntmps) (f := g) hnd hcl _ _ _ _ _ hrun).1 [.code c] _ (.ss [c] ss [] [] (by simp [trL, h6]) .nil) rv
    obtain ⟨t', e1, e2⟩ := hm
    rw [e1]
    obtain ⟨x, V', h'⟩ := r
    cases x with
    | panic v => exact hr
    | halt K => cases hr
    | ret =>
      rw [cF_ret]
      have := resR_sound (h := h') e2 h8
      unfold resA
      rw [this]
      exact hr
end
end Go.Proofs.YtngphebjmmencaaDoor
namespace Go.Proofs.YtngphebjmmencaaDoor
set_option linter.unusedSimpArgs false
set_option linter.unusedVariables false
open Go

/-- one after the other: what only computes first -/
def planGo (ops : Array Oper) (M : Array Nat) : Nat → List Nat → List Nat → List (Nat × List Nat)
  | 0, _, _ => []
  | n + 1, rest, done =>
    let rdy := rest.filter fun i => rest.all fun j => j == i || !preA M j i
    match (rdy.find? fun i => stillA (ops.getD i default)).or rdy.head? with
    | none => []
    | some i => (i, if stillA (ops.getD i default) then [] else done.filter fun j => isLoad (ops.getD j default) && !preA M j i) :: planGo ops M n (rest.filter (· != i)) (done ++ [i])
def autoPlan (ops : Array Oper) : List (Nat × List Nat) := planGo ops (Region.before ops) ops.size (List.range ops.size) []

def findReg (id : Nat) : Code → Option (Array Oper)
  | .region i ops _ => if i = id then some ops else none
  | .seq a b => (findReg id a).or (findReg id b)
  | .cond _ a b => (findReg id a).or (findReg id b)
  | .block _ b => findReg id b
  | .loop b => findReg id b
  | _ => none

def nkOf (fn : Func) : Nat := fn.ntmps

def stdPol (P : Program) (mu : FuncId → TypeId → Bool) (ext : FuncId → Option (List AV → AH → Option ((AV ⊕ AV) × AH))) (use pure : List FuncId) : Pol where
  ext := ext
  mu := mu
  nv g := match P.funcs[g]? with
    | some fn => nkOf fn
    | none => 0
  plan g id := match ((P.funcs[g]?).bind (·.body)).bind (findReg id) with
    | some ops => autoPlan ops
    | none => []
  use := use.contains
  pure := pure.contains
  kp g d := match P.funcs[g]? with
    | some fn => fn.results.toList.any fun r => match r with | .cell i _ => i == d | _ => false
    | none => false

def tyChk (P : Program) : Bool := (List.range P.types.size).all fun t => (match P.info? t with
  | some i => decide (i.bytes ≤ 100000) && (match i.zero with | some v => v.cells.size == i.size | none => true)
  | none => true) && (match P.underlying t with
  | some (.slice e) => decide (0 < P.cellsOf e)
  | _ => true)
def fnChk (P : Program) (po : Pol) (use : List FuncId) : Bool := use.all fun g => match P.funcs[g]? with
  | some fn => (match fn.body with | some c => regOK (po.plan g) (po.kp g) c | none => true) && !(fn.name == "runtime.NumGoroutine")
  | none => true

theorem tyOK_of {P : Program} (h : tyChk P = true) : TyOK P := by
  unfold tyChk at h
  rw [List.all_eq_true] at h
  refine ⟨fun t i v hlt h1 h2 => ?_, fun t i hlt h1 => ?_, fun t e hlt he => ?_⟩
  · have := h t (List.mem_range.2 hlt)
    simp only [h1, h2, Bool.and_eq_true, beq_iff_eq] at this
    exact this.1.2
  · have := h t (List.mem_range.2 hlt)
    simp only [h1, Bool.and_eq_true, decide_eq_true_eq] at this
    exact this.1.1
  · have := h t (List.mem_range.2 hlt)
    simp only [he, Bool.and_eq_true, decide_eq_true_eq] at this
    exact this.2

theorem pok_of {P : Program} {mu : FuncId → TypeId → Bool} {ext : FuncId → Option (List AV → AH → Option ((AV ⊕ AV) × AH))} {use pure : List FuncId} (hty : TyOK P) (hm : P.follows .mixedOrders = true)
    (hf : fnChk P (stdPol P mu ext use pure) use = true) (hx : ∀ g F, ext g = some F → ∃ fn, P.funcs[g]? = some fn ∧ (fn.body.isNone = false ∧ (fn.name == "runtime.NumGoroutine") = false) ∧ ∀ args h r, F args h = some r → AC P g args h r) : POK P (stdPol P mu ext use pure) := by
  unfold fnChk at hf
  rw [List.all_eq_true] at hf
  have hmem : ∀ g, (stdPol P mu ext use pure).use g = true → g ∈ use := fun g hg => by simpa [stdPol] using hg
  refine ⟨hty, fun g fn h1 h2 => ?_, hx, fun g fn c h1 h2 h3 => ?_, hm⟩
  · have := hf g (hmem g h2)
    rw [h1] at this
    simp only [Bool.and_eq_true] at this
    simpa using this.2
  · have := hf g (hmem g h3)
    rw [h1] at this
    simp only [h2, Bool.and_eq_true] at this
    exact this.1
end Go.Proofs.YtngphebjmmencaaDoor
namespace Go.Proofs.YtngphebjmmencaaDoor
set_option linter.unusedSimpArgs false
set_option linter.unusedVariables false
open Go

abbrev CallR := FuncId → List AV → AH → Option ((AV ⊕ AV) × AH)
abbrev RRun := Option (AEx × List AV × AH)
section
variable (C : CallR) (nv : Nat)
/-- on, with a value -/
noncomputable def rV (d : RD) (is : List RI) (k : List RK) (V L : List AV) (h : AH) : Option AV → RRun
  | some v => runR C nv (.ops is :: k) (putV V v d) (putL L v d) h
  | none => none
/-- on, with another memory -/
noncomputable def rH (is : List RI) (k : List RK) (V L : List AV) : Option AH → RRun
  | some h => runR C nv (.ops is :: k) V L h
  | none => none
noncomputable def rS (d : RD) (is : List RI) (k : List RK) (V L : List AV) : Option (AV × AH) → RRun
  | some (v, h) => runR C nv (.ops is :: k) (putV V v d) (putL L v d) h
  | none => none
noncomputable def rC (d : RD) (is : List RI) (k : List RK) (V L : List AV) : Option ((AV ⊕ AV) × AH) → RRun
  | some (.inl v, h) => runR C nv (.ops is :: k) (putV V v d) (putL L v d) h
  | some (.inr v, h) => some (.panic v, V, h)
  | none => none
noncomputable def rF (d : RD) (is : List RI) (k : List RK) (V L : List AV) (h : AH) : Option (FuncId × List AV) → RRun
  | some (g, args) => rC C nv d is k V L (C g args h)
  | none => none
noncomputable def rG (d : RD) (o : RO) (is : List RI) (k : List RK) (V L : List AV) (h : AH) : Option Bool → RRun
  | some true => runR C nv (.ops (.i d o :: is) :: k) V L h
  | some false => runR C nv (.ops is :: k) (putV V (.tup []) d) (putL L (.tup []) d) h
  | none => none
noncomputable def rB (x y l : List RS) (k : List RK) (V : List AV) (h : AH) : AV → RRun
  | .bool b => if b then runR C nv (.ss x :: .ss l :: k) V [] h else runR C nv (.ss y :: .ss l :: k) V [] h
  | _ => none
noncomputable def rE (V L : List AV) (h : AH) : Option (List RK) → RRun
  | some k => runR C nv k V L h
  | none => none
end

section
variable {C : CallR} {nv : Nat} {k : List RK} {V L : List AV} {h : AH} {d : RD} {is : List RI}
theorem r_nil : runR C nv [] V L h = some (.ret, V, h) := by rw [runR]
theorem r_ss_nil : runR C nv (.ss [] :: k) V L h = runR C nv k V L h := by rw [runR]
theorem r_ops {l : List RS} : runR C nv (.ss (.ops is :: l) :: k) V L h = runR C nv (.ops is :: .ss l :: k) V [] h := by rw [runR]
theorem r_cond {a : Arg} {x y l : List RS} : runR C nv (.ss (.cond a x y :: l) :: k) V L h = rB C nv x y l k V h (arg V [] a) := by
  rw [runR]
  cases arg V [] a <;> rfl
theorem r_block {id : Nat} {b l : List RS} : runR C nv (.ss (.block id b :: l) :: k) V L h = runR C nv (.ss b :: .blk id :: .ss l :: k) V L h := by rw [runR]
theorem r_loop {b l : List RS} : runR C nv (.ss (.loop b :: l) :: k) V L h = runR C nv (.lp b :: .ss l :: k) V L h := by conv => lhs; rw [runR]
theorem r_exit {id : Nat} {l : List RS} : runR C nv (.ss (.exit id :: l) :: k) V L h = rE C nv V L h (exitR id k) := by
  rw [runR]
  cases exitR id k <;> rfl
theorem r_ret {l : List RS} : runR C nv (.ss (.ret :: l) :: k) V L h = some (.ret, V, h) := by rw [runR]
theorem r_blk {id : Nat} : runR C nv (.blk id :: k) V L h = runR C nv k V L h := by rw [runR]
theorem r_lp {b : List RS} : runR C nv (.lp b :: k) V L h = runR C nv (.ss b :: .lp b :: k) (clearA nv V) L h := by rw [runR]
theorem r_ops_nil : runR C nv (.ops [] :: k) V L h = runR C nv k V [] h := by rw [runR]
theorem r_ck {l : List RCk} (hc : chkR V L h l) : runR C nv (.ops (.ck l :: is) :: k) V L h = runR C nv (.ops is :: k) V L h := by rw [runR]; simp [hc]
theorem r_op {o : RO} (hn : calleeR V L o = none) (hp : panR V L o = none) : runR C nv (.ops (.i d o :: is) :: k) V L h = rS C nv d is k V L (evalR V L h o) := by
  rw [runR]
  simp only [hn, hp]
  rcases evalR V L h o with _ | ⟨v, h'⟩ <;> rfl
theorem r_pan {x : Arg} {q : TypeId} {v : AV} (hx : arg V L x = .iface q v) : runR C nv (.ops (.i d (.pan x) :: is) :: k) V L h = some (.panic (.iface q v), V, h) := by
  rw [runR]
  simp [panR, hx]
theorem r_halt {K : List Item} : runR C nv (.halt K :: k) V L h = some (.halt K, V, h) := by rw [runR]
theorem r_call {f : Arg} {args : List Arg} : runR C nv (.ops (.i d (.call f args) :: is) :: k) V L h = rF C nv d is k V L h (calleeR V L (.call f args)) := by
  rw [runR]
  simp only [panR]
  rcases hc : calleeR V L (.call f args) with _ | ⟨g, as⟩
  · rfl
  · simp only [rF]
    rcases C g as h with _ | ⟨_ | _, h'⟩ <;> rfl
theorem r_callf {g : FuncId} {args : List Arg} : runR C nv (.ops (.i d (.call (.c (.fn g [] [])) args) :: is) :: k) V L h = rC C nv d is k V L (C g (args.map (arg V L)) h) := by
  rw [r_call]
  simp [calleeR, arg, rF]
theorem r_g {a : Arg} {w : Bool} {o : RO} : runR C nv (.ops (.g a w d o :: is) :: k) V L h = rG C nv d o is k V L h (guardR V L a w) := by
  rw [runR]
  rcases guardR V L a w with _ | ⟨_ | _⟩
  · rfl
  · rfl
  · simp only [rG]
    conv => rhs; rw [runR]
theorem rS_map {x : Option AV} : rS C nv d is k V L (x.map fun v => (v, h)) = rV C nv d is k V L h x := by cases x <;> rfl
theorem r_mv {x : Arg} : runR C nv (.ops (.i d (.mv x) :: is) :: k) V L h = runR C nv (.ops is :: k) (putV V (arg V L x) d) (putL L (arg V L x) d) h := by rw [r_op rfl rfl]; rfl
theorem r_pick {c x y : Arg} : runR C nv (.ops (.i d (.pick c x y) :: is) :: k) V L h = rV C nv d is k V L h (pickR (arg V L c) (arg V L x) (arg V L y)) := by rw [r_op rfl rfl]; exact rS_map
theorem r_build {z : List AV} {pl : List (Nat × Nat)} {ps : List (Nat × Arg)} : runR C nv (.ops (.i d (.build z pl ps) :: is) :: k) V L h = rV C nv d is k V L h ((fillA pl z (ps.map fun q => (q.1, arg V L q.2))).map .agg) := by
  rw [r_op rfl rfl]
  simp only [evalR]
  cases fillA pl z (ps.map fun q => (q.1, arg V L q.2)) <;> rfl
theorem r_nilc {x : Arg} : runR C nv (.ops (.i d (.nilc x) :: is) :: k) V L h = rV C nv d is k V L h (nilcR (arg V L x)) := by rw [r_op rfl rfl]; exact rS_map
theorem r_bin {kd : Kd} {op : BinOp} {x y : Arg} : runR C nv (.ops (.i d (.bin kd op x y) :: is) :: k) V L h = rV C nv d is k V L h (binA kd op (arg V L x) (arg V L y)) := by rw [r_op rfl rfl]; exact rS_map
theorem r_binG {kd : Kd} {ks : Option (List Kd)} {cy : Bool} {op : BinOp} {x y : Arg} : runR C nv (.ops (.i d (.binG kd ks cy op x y) :: is) :: k) V L h = rV C nv d is k V L h (binR kd ks cy op (arg V L x) (arg V L y)) := by rw [r_op rfl rfl]; exact rS_map
theorem r_un {op : UnOp} {x : Arg} : runR C nv (.ops (.i d (.un op x) :: is) :: k) V L h = rV C nv d is k V L h (unA op (arg V L x)) := by rw [r_op rfl rfl]; exact rS_map
theorem r_conv {kd : Kd} {x : Arg} : runR C nv (.ops (.i d (.conv kd x) :: is) :: k) V L h = rV C nv d is k V L h (cvA kd (arg V L x)) := by rw [r_op rfl rfl]; exact rS_map
theorem r_mki {t : TypeId} {x : Arg} : runR C nv (.ops (.i d (.mki t x) :: is) :: k) V L h = rV C nv d is k V L h (mkiR t (arg V L x)) := by rw [r_op rfl rfl]; exact rS_map
theorem r_mkf {g : FuncId} {f c : List Arg} : runR C nv (.ops (.i d (.mkf g f c) :: is) :: k) V L h = rV C nv d is k V L h (some (.fn g (f.map (arg V L)) (c.map (arg V L)))) := by rw [r_op rfl rfl]; rfl
theorem r_slc {s : Bool} {e : Option TypeId} {x : Arg} {lo hi : Option Arg} : runR C nv (.ops (.i d (.slc s e x lo hi) :: is) :: k) V L h = rV C nv d is k V L h (if fitsR s e (arg V L x) then sliceA (arg V L x) (lo.map (arg V L)) (hi.map (arg V L)) else none) := by
  rw [r_op rfl rfl]
  simp only [evalR]
  split
  · exact rS_map
  · rfl
theorem r_fad {off : Nat} {x : Arg} : runR C nv (.ops (.i d (.fad off x) :: is) :: k) V L h = rV C nv d is k V L h (fldA off (arg V L x)) := by rw [r_op rfl rfl]; exact rS_map
theorem r_fld {agg : Bool} {n off : Nat} {x : Arg} : runR C nv (.ops (.i d (.fld agg n off x) :: is) :: k) V L h = rV C nv d is k V L h (fldR agg n off (arg V L x)) := by rw [r_op rfl rfl]; exact rS_map
theorem r_ixa {e : Option TypeId} {ar : Option (Nat × Nat)} {x q : Arg} : runR C nv (.ops (.i d (.ixa e ar x q) :: is) :: k) V L h = rV C nv d is k V L h (ixaR e ar (arg V L x) (arg V L q)) := by rw [r_op rfl rfl]; exact rS_map
theorem r_ix {s : Bool} {ar : Option (Nat × Nat × Bool)} {x q : Arg} : runR C nv (.ops (.i d (.ix s ar x q) :: is) :: k) V L h = rV C nv d is k V L h (ixR s ar (arg V L x) (arg V L q)) := by rw [r_op rfl rfl]; exact rS_map
theorem r_tas {t : TypeId} {ok : Bool} {x : Arg} : runR C nv (.ops (.i d (.tas t ok x) :: is) :: k) V L h = rV C nv d is k V L h (tasR t ok (arg V L x)) := by rw [r_op rfl rfl]; exact rS_map
theorem r_ext {x : Arg} {i : Nat} : runR C nv (.ops (.i d (.ext x i) :: is) :: k) V L h = rV C nv d is k V L h (extR (arg V L x) i) := by rw [r_op rfl rfl]; exact rS_map
theorem r_len {s : Bool} {e : Option TypeId} {x : Arg} : runR C nv (.ops (.i d (.len s e x) :: is) :: k) V L h = rV C nv d is k V L h (if fitsR s e (arg V L x) then (lenA (arg V L x)).map fun (n : Nat) => i64 n else none) := by
  rw [r_op rfl rfl]
  simp only [evalR]
  split
  · cases lenA (arg V L x) <;> rfl
  · rfl
theorem r_alloc {z : List AV} : runR C nv (.ops (.i d (.alloc z) :: is) :: k) V L h = runR C nv (.ops is :: k) (putV V (.ptr h.n 0 0) d) (putL L (.ptr h.n 0 0) d) (h.push [z]) := by rw [r_op rfl rfl]; rfl
theorem r_box {n : Nat} {x : Arg} (h1 : (arg V L x).cells.all AV.one = true) (h2 : (arg V L x).cells.length = n) : runR C nv (.ops (.i d (.box n x) :: is) :: k) V L h = runR C nv (.ops is :: k) (putV V (.ptr h.n 0 0) d) (putL L (.ptr h.n 0 0) d) (h.push [(arg V L x).cells]) := by
  rw [r_op rfl rfl]
  simp [evalR, h1, h2, rS]
theorem r_bsl {e : TypeId} {z : List AV} {n len : Nat} {ps : List (Nat × Arg)} : runR C nv (.ops (.i d (.bsl false e z n len ps) :: is) :: k) V L h = rS C nv d is k V L ((fillE n (List.replicate len z) (ps.map fun q => (q.1, arg V L q.2))).map fun es => (.isl (some h.ids) e es, h.fresh len)) := by rw [r_op rfl rfl]; rfl
theorem r_bslM {e : TypeId} {z : List AV} {n len : Nat} {ps : List (Nat × Arg)} : runR C nv (.ops (.i d (.bsl true e z n len ps) :: is) :: k) V L h = rS C nv d is k V L ((fillE n (List.replicate len z) (ps.map fun q => (q.1, arg V L q.2))).map fun es => (.msl h.n 0 len e, h.push es)) := by rw [r_op rfl rfl]; rfl
theorem r_load {agg : Bool} {n : Nat} {x : Arg} : runR C nv (.ops (.i d (.load agg n x) :: is) :: k) V L h = rV C nv d is k V L h (loadA agg n h (arg V L x)) := by rw [r_op rfl rfl]; exact rS_map
theorem r_store {n : Nat} {a x : Arg} : runR C nv (.ops (.i .n (.store n a x) :: is) :: k) V L h = rH C nv is k V L (storeA n h (arg V L a) (arg V L x)) := by
  rw [r_op rfl rfl]
  simp only [evalR]
  cases storeA n h (arg V L a) (arg V L x) <;> rfl
theorem r_mks {e : TypeId} {z : List AV} {l c : Arg} : runR C nv (.ops (.i d (.mks e z l c) :: is) :: k) V L h = rS C nv d is k V L (mksR e z (arg V L l) (arg V L c) h) := by rw [r_op rfl rfl]; rfl
theorem r_app {mu : Bool} {e : TypeId} {x y : Arg} : runR C nv (.ops (.i d (.app mu e x y) :: is) :: k) V L h = rS C nv d is k V L (appendA mu e (arg V L x) (arg V L y) h) := by rw [r_op rfl rfl]; rfl

theorem r_apps {mu : Bool} {e : TypeId} {x y : Arg} : runR C nv (.ops (.i d (.apps mu e x y) :: is) :: k) V L h = rS C nv d is k V L (appendS mu e (arg V L x) (arg V L y) h) := by rw [r_op rfl rfl]; rfl
theorem r_tbox {t : TypeId} {n : Nat} {x : Arg} (h1 : (arg V L x).cells.all AV.one = true) (h2 : (arg V L x).cells.length = n) : runR C nv (.ops (.i d (.tbox t n x) :: is) :: k) V L h = runR C nv (.ops is :: k) (putV V (.tptr t h.n) d) (putL L (.tptr t h.n) d) (h.push [(arg V L x).cells]) := by
  rw [r_op rfl rfl]
  simp [evalR, h1, h2, rS]
theorem r_talloc {t : TypeId} {z : List AV} : runR C nv (.ops (.i d (.talloc t z) :: is) :: k) V L h = runR C nv (.ops is :: k) (putV V (.tptr t h.n) d) (putL L (.tptr t h.n) d) (h.push [z]) := by rw [r_op rfl rfl]; rfl
theorem r_mm {mx : Bool} {x y : Arg} : runR C nv (.ops (.i d (.mm mx x y) :: is) :: k) V L h = rV C nv d is k V L h (mmA mx (arg V L x) (arg V L y)) := by rw [r_op rfl rfl]; exact rS_map

theorem rV_some {v : AV} : rV C nv d is k V L h (some v) = runR C nv (.ops is :: k) (putV V v d) (putL L v d) h := rfl
theorem rH_some : rH C nv is k V L (some h) = runR C nv (.ops is :: k) V L h := rfl
theorem rS_some {v : AV} : rS C nv d is k V L (some (v, h)) = runR C nv (.ops is :: k) (putV V v d) (putL L v d) h := rfl
theorem rC_ret {v : AV} : rC C nv d is k V L (some (.inl v, h)) = runR C nv (.ops is :: k) (putV V v d) (putL L v d) h := rfl
theorem rC_panic {v : AV} : rC C nv d is k V L (some (.inr v, h)) = some (.panic v, V, h) := rfl
theorem rG_true {o : RO} : rG C nv d o is k V L h (some true) = runR C nv (.ops (.i d o :: is) :: k) V L h := rfl
theorem rG_false {o : RO} : rG C nv d o is k V L h (some false) = runR C nv (.ops is :: k) (putV V (.tup []) d) (putL L (.tup []) d) h := rfl
theorem rB_bool {x y l : List RS} {b : Bool} : rB C nv x y l k V h (.bool b) = if b = true then runR C nv (.ss x :: .ss l :: k) V [] h else runR C nv (.ss y :: .ss l :: k) V [] h := rfl
theorem rE_some : rE C nv V L h (some k) = runR C nv k V L h := rfl
theorem pick_bool {b : Bool} {x y : AV} : pickR (.bool b) x y = some (if b = true then x else y) := rfl
theorem guard_bool {b : Bool} {a : Arg} {w : Bool} (ha : arg V L a = .bool b) : guardR V L a w = some (if w = true then b else !b) := by simp [guardR, ha]
theorem cFR_ret {p : Bool} {rs : List RRes} {h0 : AH} : cFR p rs h0 (some (.ret, V, h)) = cF.cR p h0 h ((resR V h rs).map oneA) := rfl
theorem cFR_panic {p : Bool} {rs : List RRes} {h0 : AH} {v : AV} : cFR p rs h0 (some (.panic v, V, h)) = fgA p h0 (.inr v, h) := rfl
theorem arg_v {j : Nat} : arg V L (.v j) = V.getD j .junk := rfl
theorem arg_l {j : Nat} : arg V L (.l j) = L.getD j .junk := rfl
theorem arg_c {a : AV} : arg V L (.c a) = a := rfl
theorem putV_v {v : AV} {j : Nat} : putV V v (.v j) = V.set j v := rfl
theorem putV_l {v : AV} : putV V v .l = V := rfl
theorem putV_n {v : AV} : putV V v .n = V := rfl
theorem putL_v {v : AV} {j : Nat} : putL L v (.v j) = L := rfl
theorem putL_l {v : AV} : putL L v .l = v :: L := rfl
theorem putL_n {v : AV} : putL L v .n = L := rfl
end
end Go.Proofs.YtngphebjmmencaaDoor
namespace Go.Proofs.YtngphebjmmencaaDoor
set_option linter.unusedSimpArgs false
set_option linter.unusedVariables false
open Go

section
variable {C : CallR} {nv : Nat} {k : List RK} {V L : List AV} {h h0 : AH} {kd : Kd} {q : IntKind}
theorem b_add {a b : Int} : binA kd .add (.int q a) (.int q b) = some (.int q (q.wrap (a + b))) := by simp [binA, intA]
theorem b_sub {a b : Int} : binA kd .sub (.int q a) (.int q b) = some (.int q (q.wrap (a - b))) := by simp [binA, intA]
theorem b_mul {a b : Int} : binA kd .mul (.int q a) (.int q b) = some (.int q (q.wrap (a * b))) := by simp [binA, intA]
theorem b_eql {a b : Int} : binA kd .eql (.int q a) (.int q b) = some (.bool (decide (a = b))) := by simp [binA, intA]; rfl
theorem b_neq {a b : Int} : binA kd .neq (.int q a) (.int q b) = some (.bool (!decide (a = b))) := by simp [binA, intA]; rfl
theorem b_lss {a b : Int} : binA kd .lss (.int q a) (.int q b) = some (.bool (decide (a < b))) := by simp [binA, intA]
theorem b_leq {a b : Int} : binA kd .leq (.int q a) (.int q b) = some (.bool (decide (a ≤ b))) := by simp [binA, intA]
theorem b_gtr {a b : Int} : binA kd .gtr (.int q a) (.int q b) = some (.bool (decide (b < a))) := by simp [binA, intA]
theorem b_geq {a b : Int} : binA kd .geq (.int q a) (.int q b) = some (.bool (decide (b ≤ a))) := by simp [binA, intA]
theorem b_and {a b : Int} : binA kd .and (.int q a) (.int q b) = some (.int q (q.wrap (BitVec.ofInt q.bits a &&& BitVec.ofInt q.bits b).toNat)) := by simp [binA, intA]
theorem b_or {a b : Int} : binA kd .or (.int q a) (.int q b) = some (.int q (q.wrap (BitVec.ofInt q.bits a ||| BitVec.ofInt q.bits b).toNat)) := by simp [binA, intA]
theorem b_andNot {a b : Int} : binA kd .andNot (.int q a) (.int q b) = some (.int q (q.wrap (BitVec.ofInt q.bits a &&& ~~~(BitVec.ofInt q.bits b)).toNat)) := by simp [binA, intA]
theorem b_seql {a b : List UInt8} : binA kd .eql (.str a) (.str b) = some (.bool (decide (a = b))) := by by_cases hh : a = b <;> simp [binA, hh]
theorem b_sneq {a b : List UInt8} : binA kd .neq (.str a) (.str b) = some (.bool (!decide (a = b))) := by by_cases hh : a = b <;> simp [binA, hh]
theorem b_beql {a b : Bool} : binA .bool .eql (.bool a) (.bool b) = some (.bool (a == b)) := by simp [binA, eqA]
theorem b_bneq {a b : Bool} : binA .bool .neq (.bool a) (.bool b) = some (.bool (!(a == b))) := by simp [binA, eqA]
theorem b_snil {z : TypeId} {es : List (List AV)} {i : Option Nat} : binA .slice .eql (.isl i z es) .nils = some (.bool false) := by simp [binA, eqA]
theorem b_snilnil : binA .slice .eql .nils .nils = some (.bool true) := by simp [binA, eqA]
theorem b_snilM {b o n : Nat} {z : TypeId} : binA .slice .eql (.msl b o n z) .nils = some (.bool false) := by simp [binA, eqA]
theorem u_not {b : Bool} : unA .not (.bool b) = some (.bool !b) := rfl
theorem u_neg {a : Int} : unA .neg (.int q a) = some (.int q (q.wrap (0 - a))) := rfl
theorem c_int {p : IntKind} {a : Int} : cvA (.int q) (.int p a) = some (.int q (q.wrap a)) := rfl
theorem c_str {s : List UInt8} : cvA .str (.str s) = some (.str s) := rfl

theorem l_ptr {agg : Bool} {n b i off : Nat} : loadA agg n h (.ptr b i off) = ((h.cell b).bind (·[i]?)).bind fun e => ldA agg n e off := rfl
theorem l_ip {agg : Bool} {n off : Nat} {e : List AV} : loadA agg n h (.ip e off) = ldA agg n e off := rfl
theorem ld_one {n off : Nat} {e : List AV} : ldA false n e off = e[off]? := rfl
theorem ld_all {n : Nat} {e : List AV} (he : e.length = n) : ldA true n e 0 = some (.agg e) := by subst he; simp [ldA]
theorem s_ptr {n b i off : Nat} {x : AV} {es : List (List AV)} {e : List AV} (hb : h.cell b = some es) (hi : es[i]? = some e) (h1 : x.cells.all AV.one = true) (h2 : x.cells.length = n) (h3 : off + n ≤ e.length) :
    storeA n h (.ptr b i off) x = some (h.set b (some (es.set i (stA e off x.cells)))) := by simp [storeA, hb, hi, h1, h2, h3]
theorem ix_isl {e el : TypeId} {id : Option Nat} {es : List (List AV)} {i : Nat} {r : List AV} (he : e = el) (hi : es[i]? = some r) : ixaR (some e) none (.isl id el es) (.int q (i : Int)) = some (.ip r 0) := by simp [ixaR, he, hi]
theorem ix_msl {e el : TypeId} {b o n i : Nat} (he : e = el) (hi : i < n) : ixaR (some e) none (.msl b o n el) (.int q (i : Int)) = some (.ptr b (o + i) 0) := by simp [ixaR, he, hi]
theorem f_ptr {b i o off : Nat} : fldA off (.ptr b i o) = some (.ptr b i (o + off)) := rfl
theorem f_ip {e : List AV} {o off : Nat} : fldA off (.ip e o) = some (.ip e (o + off)) := rfl
theorem n_ptr {b i o : Nat} : nilcR (.ptr b i o) = some (.ptr b i o) := rfl
theorem n_ip {e : List AV} {o : Nat} : nilcR (.ip e o) = some (.ip e o) := rfl
theorem len_nils : lenA .nils = some 0 := rfl
theorem len_isl {id : Option Nat} {el : TypeId} {es : List (List AV)} : lenA (.isl id el es) = some es.length := rfl
theorem len_msl {b o n : Nat} {el : TypeId} : lenA (.msl b o n el) = some n := rfl
theorem len_str {s : List UInt8} : lenA (.str s) = some s.length := rfl
theorem fits_nils {s : Bool} {e : TypeId} : fitsR s (some e) .nils = true := rfl
theorem fits_isl {s : Bool} {e : TypeId} {id : Option Nat} {es : List (List AV)} : fitsR s (some e) (.isl id e es) = true := by simp [fitsR]
theorem fits_msl {s : Bool} {e : TypeId} {b o n : Nat} : fitsR s (some e) (.msl b o n e) = true := by simp [fitsR]
theorem fits_str {e : Option TypeId} {l : List UInt8} : fitsR true e (.str l) = true := rfl

theorem set_cell {b j : Nat} {es : Option (List (List AV))} : (h.set b es).cell j = if j = b then es else h.cell j := rfl
theorem set_same {b : Nat} {es : Option (List (List AV))} : (h.set b es).cell b = es := by simp [AH.set]
theorem set_ne {b j : Nat} {es : Option (List (List AV))} (hj : j ≠ b) : (h.set b es).cell j = h.cell j := by simp [AH.set, hj]
theorem set_n {b : Nat} {es : Option (List (List AV))} : (h.set b es).n = h.n := rfl
theorem set_ids {b : Nat} {es : Option (List (List AV))} : (h.set b es).ids = h.ids := rfl
theorem set_hw {b : Nat} {es : Option (List (List AV))} : (h.set b es).hw = h.hw := rfl
theorem push_same {es : List (List AV)} : (h.push es).cell h.n = some es := by simp [AH.push]
theorem push_ne {es : List (List AV)} {j : Nat} (hj : j ≠ h.n) : (h.push es).cell j = h.cell j := by simp [AH.push, hj]
theorem push_n {es : List (List AV)} : (h.push es).n = h.n + 1 := rfl
theorem push_ids {es : List (List AV)} : (h.push es).ids = h.ids := rfl
theorem push_hw {es : List (List AV)} : (h.push es).hw = h.hw := rfl
theorem fresh_cell {m : Nat} : (h.fresh m).cell = h.cell := rfl
theorem fresh_n {m : Nat} : (h.fresh m).n = h.n := rfl
theorem fresh_ids {m : Nat} : (h.fresh m).ids = h.ids + 1 := rfl
theorem fresh_hw {m : Nat} : (h.fresh m).hw h.ids = m := by simp [AH.fresh]
theorem fresh_hw_ne {m j : Nat} (hj : j ≠ h.ids) : (h.fresh m).hw j = h.hw j := by simp [AH.fresh, hj]
theorem grow_cell {i m : Nat} : (h.grow i m).cell = h.cell := rfl
theorem grow_n {i m : Nat} : (h.grow i m).n = h.n := rfl
theorem grow_ids {i m : Nat} : (h.grow i m).ids = h.ids := rfl
theorem grow_hw {i m : Nat} : (h.grow i m).hw i = m := by simp [AH.grow]
theorem grow_hw_ne {i m j : Nat} (hj : j ≠ i) : (h.grow i m).hw j = h.hw j := by simp [AH.grow, hj]

/-- a slice that the call builds, one behind the other -/
def Acc (h0 h : AH) (e : TypeId) (v : AV) (acc : List (List AV)) : Prop := (acc = [] ∧ v = .nils) ∨ ∃ id, acc ≠ [] ∧ h0.ids ≤ id ∧ id < h.ids ∧ h.hw id = acc.length ∧ v = .isl (some id) e acc
theorem acc_nil (h0 h : AH) (e : TypeId) : Acc h0 h e .nils [] := .inl ⟨rfl, rfl⟩
theorem acc_app {e : TypeId} {v : AV} {acc : List (List AV)} (ha : Acc h0 h e v acc) (g : GrewA h0 h) {row : List AV} (h1 : row.all AV.one = true) (hl : acc.length ≤ 1000000) :
    ∃ v' h', appendA false e v (.isl (some h.ids) e [row]) (h.fresh 1) = some (v', h') ∧ Acc h0 h' e v' (acc ++ [row]) ∧ GrewA h0 h' ∧ h'.cell = h.cell ∧ h'.n = h.n := by
  have g1 : GrewA h0 (h.fresh 1) := g.trans (GrewA.fresh h 1)
  have h1' : ∀ x, x ∈ row → x.one = true := by simpa using h1
  rcases ha with ⟨rfl, rfl⟩ | ⟨id, a0, a1, a2, a3, rfl⟩
  · refine ⟨.isl (some (h.ids + 1)) e [row], (h.fresh 1).fresh 1, ?_, .inr ⟨h.ids + 1, by simp, ?_, ?_, ?_, by simp⟩, g1.trans (GrewA.fresh _ 1), rfl, rfl⟩
    · simp only [appendA, elemsA, if_true, Option.bind_some, List.length_singleton, Nat.one_ne_zero, if_false, moreA]
      rw [if_pos ⟨by omega, by omega, by simpa using h1'⟩]
      rfl
    · have := g.ids; omega
    · simp [AH.fresh]
    · simp [AH.fresh]
  · have hne : id ≠ h.ids := by omega
    refine ⟨.isl (some id) e (acc ++ [row]), (h.fresh 1).grow id (acc.length + 1), ?_, .inr ⟨id, by simp, a1, ?_, ?_, rfl⟩, g1.grow a1, rfl, rfl⟩
    · simp only [appendA, elemsA, if_true, Option.bind_some, List.length_singleton, Nat.one_ne_zero, if_false, moreA]
      rw [if_pos ⟨by omega, by omega, by simpa using h1'⟩, fresh_hw_ne hne, a3]
      simp only [true_and, hl, if_true]
    · simp [AH.grow, AH.fresh]; omega
    · simp [AH.grow]
theorem acc_len {e : TypeId} {v : AV} {acc : List (List AV)} (ha : Acc h0 h e v acc) : lenA v = some acc.length ∧ ∀ s, fitsR s (some e) v = true := by
  rcases ha with ⟨rfl, rfl⟩ | ⟨id, _, _, _, _, rfl⟩
  · exact ⟨rfl, fun s => rfl⟩
  · exact ⟨rfl, fun s => by simp [fitsR]⟩

/-- a cell that speaks of no memory -/
def flatA : AV → Bool
  | .bool _ | .int _ _ | .str _ | .nilp | .nils | .nilf | .nili => true
  | _ => false
theorem flat_wk {v : AV} (h : flatA v = true) : wkA v = some v := by cases v <;> simp_all [flatA, wkA]
theorem flat_wkL : ∀ {l : List AV}, l.all flatA = true → wkL l = some l
  | [], _ => rfl
  | v :: l, h => by
    simp only [List.all_cons, Bool.and_eq_true] at h
    simp [wkL, flat_wk h.1, flat_wkL h.2]
theorem flat_wkR : ∀ {l : List (List AV)}, (∀ r ∈ l, r.all flatA = true) → wkR l = some l
  | [], _ => rfl
  | v :: l, h => by simp only [wkR, flat_wkL (h v (List.mem_cons_self ..)), flat_wkR fun r hr => h r (List.mem_cons_of_mem _ hr)]
/-- a slice that was built: nil, if nothing is in it -/
def lstA (e : TypeId) (es : List (List AV)) : AV := if es = [] then .nils else .isl none e es
theorem acc_wk {e : TypeId} {v : AV} {acc : List (List AV)} (ha : Acc h0 h e v acc) (hf : ∀ r ∈ acc, r.all flatA = true) : wkA v = some (lstA e acc) := by
  rcases ha with ⟨rfl, rfl⟩ | ⟨id, a0, _, a2, a3, rfl⟩
  · rfl
  · simp only [wkA, flat_wkR hf, Option.map_some, lstA, if_neg a0]

/-- it reads as these rows -/
structure IsL (e : TypeId) (v : AV) (rows : List (List AV)) : Prop where
  len : lenA v = some rows.length
  fits : ∀ s, fitsR s (some e) v = true
  ix : ∀ (q : IntKind) (i : Nat) row, rows[i]? = some row → ixaR (some e) none v (.int q (i : Int)) = some (.ip row 0)
theorem isL_isl (id : Option Nat) (e : TypeId) (rows : List (List AV)) : IsL e (.isl id e rows) rows := ⟨rfl, fun s => fits_isl, fun q i row h => ix_isl rfl h⟩
theorem isL_nils (e : TypeId) : IsL e .nils [] := ⟨rfl, fun s => rfl, fun q i row h => by simp at h⟩
theorem isL_lst (e : TypeId) (rows : List (List AV)) : IsL e (lstA e rows) rows := by
  unfold lstA
  split
  · rename_i h
    subst h
    exact isL_nils e
  · exact isL_isl _ _ _
theorem isL_acc {e : TypeId} {v : AV} {acc : List (List AV)} (ha : Acc h0 h e v acc) : IsL e v acc := by
  rcases ha with ⟨rfl, rfl⟩ | ⟨id, _, _, _, _, rfl⟩
  · exact isL_nils e
  · exact isL_isl _ _ _

def gB (w : Bool) : AV → Option Bool
  | .bool b => some (if w then b else !b)
  | .tup _ => some false
  | _ => none
theorem gB_tup {w : Bool} {vs : List AV} : gB w (.tup vs) = some false := rfl
theorem g_eq {a : Arg} {w : Bool} : guardR V L a w = gB w (arg V L a) := by unfold guardR gB; cases arg V L a <;> rfl
theorem gB_bool {b w : Bool} : gB w (.bool b) = some (if w = true then b else !b) := rfl
theorem e_blk {i id : Nat} : exitR id (.blk i :: k) = if i = id then some k else exitR id k := rfl
theorem e_ss {l : List RS} {id : Nat} : exitR id (.ss l :: k) = exitR id k := rfl
theorem e_lp {l : List RS} {id : Nat} : exitR id (.lp l :: k) = exitR id k := rfl
theorem e_ops {l : List RI} {id : Nat} : exitR id (.ops l :: k) = exitR id k := rfl
theorem res_nil : resR V h [] = some [] := rfl
theorem res_v {j : Nat} {rs : List RRes} : resR V h (.v j :: rs) = (resR V h rs).map fun l => V.getD j .junk :: l := rfl
theorem res_cell {agg : Bool} {n j : Nat} {rs : List RRes} : resR V h (.cell agg n j :: rs) = (loadA agg n h (V.getD j .junk)).bind fun v => (resR V h rs).map fun l => v :: l := rfl
theorem one_0 : oneA [] = .tup [] := rfl
theorem one_1 {a : AV} : oneA [a] = a := rfl
theorem one_2 {a b : AV} : oneA [a, b] = .tup [a, b] := rfl
theorem one_3 {a b c : AV} : oneA [a, b, c] = .tup [a, b, c] := rfl
theorem k_zero {a d : AV} {l : List AV} : (a :: l).getD 0 d = a := rfl
theorem k_succ {a d : AV} {l : List AV} {n : Nat} : (a :: l).getD (n + 1) d = l.getD n d := rfl
theorem k_nil {d : AV} {n : Nat} : ([] : List AV).getD n d = d := rfl
theorem k_set0 {a b : AV} {l : List AV} : (a :: l).set 0 b = b :: l := rfl
theorem k_set1 {a b : AV} {l : List AV} {n : Nat} : (a :: l).set (n + 1) b = a :: l.set n b := rfl
theorem x_zero {α : Type} {a : α} {l : List α} : (a :: l)[0]? = some a := rfl
theorem x_succ {α : Type} {a : α} {l : List α} {n : Nat} : (a :: l)[n + 1]? = l[n]? := rfl
theorem x_nil {α : Type} {n : Nat} : ([] : List α)[n]? = none := rfl
theorem cells_agg {cs : List AV} : (AV.agg cs).cells = cs := rfl
theorem cells_int {n : Int} : (AV.int q n).cells = [.int q n] := rfl
theorem cells_bool {b : Bool} : (AV.bool b).cells = [.bool b] := rfl
theorem cells_str {b : List UInt8} : (AV.str b).cells = [.str b] := rfl
theorem cells_nils : AV.nils.cells = [.nils] := rfl
theorem cells_nilp : AV.nilp.cells = [.nilp] := rfl
theorem cells_isl {i : Option Nat} {z : TypeId} {es : List (List AV)} : (AV.isl i z es).cells = [.isl i z es] := rfl
theorem cells_msl {b o n : Nat} {z : TypeId} : (AV.msl b o n z).cells = [.msl b o n z] := rfl
theorem cells_ptr {b o n : Nat} : (AV.ptr b o n).cells = [.ptr b o n] := rfl
theorem one_int {n : Int} : (AV.int q n).one = true := rfl
theorem one_bool {b : Bool} : (AV.bool b).one = true := rfl
theorem one_str {b : List UInt8} : (AV.str b).one = true := rfl
theorem one_nils : AV.nils.one = true := rfl
theorem one_nilp : AV.nilp.one = true := rfl
theorem one_isl {i : Option Nat} {z : TypeId} {es : List (List AV)} : (AV.isl i z es).one = true := rfl
theorem one_msl {b o n : Nat} {z : TypeId} : (AV.msl b o n z).one = true := rfl
theorem one_ptr {b o n : Nat} : (AV.ptr b o n).one = true := rfl
theorem one_iface {t : TypeId} {v : AV} : (AV.iface t v).one = true := rfl
theorem all_cons {p : AV → Bool} {a : AV} {l : List AV} : (a :: l).all p = (p a && l.all p) := rfl
theorem all_nil {p : AV → Bool} : ([] : List AV).all p = true := rfl
theorem ext_tup {vs : List AV} {i : Nat} : extR (.tup vs) i = vs[i]? := rfl
theorem fill_nil {pl : List (Nat × Nat)} {cs : List AV} : fillA pl cs [] = some cs := by cases pl <;> rfl
def f1A (pl : List (Nat × Nat)) (cs : List AV) (v : AV) (r : List (Nat × AV)) : Option (Nat × Nat) → Option (List AV)
  | some (off, size) => if v.cells.length = size ∧ off + size ≤ cs.length ∧ v.cells.all AV.one = true then fillA pl (stA cs off v.cells) r else none
  | none => none
theorem fill_cons {pl : List (Nat × Nat)} {cs : List AV} {i : Nat} {v : AV} {r : List (Nat × AV)} : fillA pl cs ((i, v) :: r) = f1A pl cs v r pl[i]? := by
  conv => lhs; unfold fillA
  cases pl[i]? with
  | none => rfl
  | some q => rfl
theorem fill_some {pl : List (Nat × Nat)} {cs : List AV} {off size : Nat} {v : AV} {r : List (Nat × AV)} (h1 : v.cells.length = size) (h2 : off + size ≤ cs.length) (h3 : v.cells.all AV.one = true) :
    f1A pl cs v r (some (off, size)) = fillA pl (stA cs off v.cells) r := by simp [f1A, h1, h2, h3]
def s1A (n : Nat) (h : AH) (b i off : Nat) (cs : List AV) : Option (List (List AV)) → Option AH
  | some es => (es[i]?).bind fun e => if cs.all AV.one = true ∧ cs.length = n ∧ off + n ≤ e.length then some (h.set b (some (es.set i (stA e off cs)))) else none
  | none => none
def s2A (n : Nat) (h : AH) (b i off : Nat) (cs : List AV) (es : List (List AV)) : Option (List AV) → Option AH
  | some e => if cs.all AV.one = true ∧ cs.length = n ∧ off + n ≤ e.length then some (h.set b (some (es.set i (stA e off cs)))) else none
  | none => none
theorem s_1 {n b i off : Nat} {x : AV} : storeA n h (.ptr b i off) x = s1A n h b i off x.cells (h.cell b) := by
  simp only [storeA]
  cases h.cell b <;> rfl
theorem s_2 {n b i off : Nat} {cs : List AV} {es : List (List AV)} : s1A n h b i off cs (some es) = s2A n h b i off cs es es[i]? := by
  simp only [s1A]
  cases es[i]? <;> rfl
theorem s_3 {n b i off : Nat} {cs : List AV} {es : List (List AV)} {e : List AV} (h1 : cs.all AV.one = true) (h2 : cs.length = n) (h3 : off + n ≤ e.length) : s2A n h b i off cs es (some e) = some (h.set b (some (es.set i (stA e off cs)))) := by simp [s2A, h1, h2, h3]
theorem fillE_nil {n : Nat} {es : List (List AV)} : fillE n es [] = some es := by cases es <;> rfl
theorem fillE_cons {n : Nat} {es : List (List AV)} {i : Nat} {v : AV} {r : List (Nat × AV)} (h1 : v.cells.length = n) (h2 : i < es.length) (h3 : v.cells.all AV.one = true) : fillE n es ((i, v) :: r) = fillE n (es.set i v.cells) r := by
  conv => lhs; unfold fillE
  simp [h1, h2, h3]
theorem stA_eq {e cs : List AV} {off : Nat} : stA e off cs = e.take off ++ cs ++ e.drop (off + cs.length) := rfl
theorem st_all {e cs : List AV} (he : e.length = cs.length) : stA e 0 cs = cs := by simp [stA, he]
theorem st_nil {e : List AV} : stA e 0 [] = e := by simp [stA]
theorem st_cons {a c : AV} {e cs : List AV} : stA (a :: e) 0 (c :: cs) = c :: stA e 0 cs := by simp [stA]
theorem st_succ {a : AV} {e cs : List AV} {n : Nat} : stA (a :: e) (n + 1) cs = a :: stA e n cs := by simp [stA, Nat.add_right_comm]
theorem set_set {b : Nat} {x y : Option (List (List AV))} : (h.set b x).set b y = h.set b y := by
  unfold AH.set
  congr 1
  funext j
  by_cases hj : j = b <;> simp [hj]
theorem set_push {x y : List (List AV)} : (h.push x).set h.n (some y) = h.push y := by
  unfold AH.push AH.set
  congr 1
  funext j
  by_cases hj : j = h.n <;> simp [hj]
theorem chk_nil : chkR V L h [] = True := rfl
theorem chk_none {agg : Bool} {n : Nat} {a d : Arg} {r : List RCk} : chkR V L h (⟨none, agg, n, a, d⟩ :: r) = (loadA agg n h (arg V L a) = some (arg V L d) ∧ chkR V L h r) := rfl
theorem chk_some {agg : Bool} {n : Nat} {g a d : Arg} {w : Bool} {r : List RCk} : chkR V L h (⟨some (g, w), agg, n, a, d⟩ :: r) = ((match gB w (arg V L g) with | some true => loadA agg n h (arg V L a) = some (arg V L d) | _ => True) ∧ chkR V L h r) := by
  simp only [chkR, guardO, g_eq] <;> rfl
theorem map_nilA {α β : Type} {f : α → β} : [].map f = [] := rfl
theorem fg_bool {b : Bool} : fgA true h (.inl (.bool b), h) = some (.inl (.bool b), h) := fg_yes (GrewA.refl h) rfl
theorem fg_int {n : Int} : fgA true h (.inl (.int q n), h) = some (.inl (.int q n), h) := fg_yes (GrewA.refl h) rfl
theorem fg_str {n : List UInt8} : fgA true h (.inl (.str n), h) = some (.inl (.str n), h) := fg_yes (GrewA.refl h) rfl
theorem w64 {n : Int} (h1 : -9223372036854775808 ≤ n) (h2 : n ≤ 9223372036854775807) : IntKind.wrap .i64 n = n := by
  rw [IntKind.wrap_i64]
  omega
theorem push2_same {a b : List (List AV)} : ((h.push a).push b).cell (h.n + 1) = some b := by simp [AH.push]
theorem push2_old {a b : List (List AV)} : ((h.push a).push b).cell h.n = some a := by simp [AH.push]
theorem set_push2 {a x y : List (List AV)} : ((h.push a).push x).set (h.n + 1) (some y) = (h.push a).push y := set_push (h := h.push a)
theorem push3_same {a b c : List (List AV)} : (((h.push a).push b).push c).cell (h.n + 1 + 1) = some c := by simp [AH.push]
theorem push3_1 {a b c : List (List AV)} : (((h.push a).push b).push c).cell (h.n + 1) = some b := by simp [AH.push]
theorem push3_0 {a b c : List (List AV)} : (((h.push a).push b).push c).cell h.n = some a := by simp [AH.push, show ¬ h.n = h.n + 1 + 1 by omega]
theorem set_push3 {a b x y : List (List AV)} : (((h.push a).push b).push x).set (h.n + 1 + 1) (some y) = ((h.push a).push b).push y := set_push (h := (h.push a).push b)
theorem push_lt {es : List (List AV)} {j : Nat} (hj : j < h.n) : (h.push es).cell j = h.cell j := push_ne (by omega)
theorem r_lpb {b b' : List RS} (hb : b = b') : runR C nv (.lp b :: k) V L h = runR C nv (.ss b' :: .lp b :: k) (clearA nv V) L h := by subst hb; exact r_lp
theorem ld_part {n off : Nat} {e : List AV} (he : off + n ≤ e.length) : ldA true n e off = some (.agg ((e.drop off).take n)) := by simp [ldA, he]
theorem l_tptr {agg : Bool} {n b : Nat} {t : TypeId} : loadA agg n h (.tptr t b) = ((h.cell b).bind (·[0]?)).bind fun e => ldA agg n e 0 := rfl
theorem f_tptr0 {t : TypeId} {b : Nat} : fldA 0 (.tptr t b) = some (.tptr t b) := rfl
theorem f_tptr1 {t : TypeId} {b : Nat} : fldA 1 (.tptr t b) = some (.ptr b 0 1) := rfl
theorem f_tptr2 {t : TypeId} {b : Nat} : fldA 2 (.tptr t b) = some (.ptr b 0 2) := rfl
theorem f_tptr3 {t : TypeId} {b : Nat} : fldA 3 (.tptr t b) = some (.ptr b 0 3) := rfl
theorem n_tptr {t : TypeId} {b : Nat} : nilcR (.tptr t b) = some (.tptr t b) := rfl
theorem s_1T {n b : Nat} {t : TypeId} {x : AV} : storeA n h (.tptr t b) x = s1A n h b 0 0 x.cells (h.cell b) := by
  simp only [storeA]
  cases h.cell b <;> rfl
theorem cells_tptr {t : TypeId} {b : Nat} : (AV.tptr t b).cells = [.tptr t b] := rfl
theorem one_tptr {t : TypeId} {b : Nat} : (AV.tptr t b).one = true := rfl
theorem mm_min {a b : Int} : mmA false (.int q a) (.int q b) = some (.int q (if b < a then b else a)) := rfl
theorem mm_max {a b : Int} : mmA true (.int q a) (.int q b) = some (.int q (if b > a then b else a)) := rfl
theorem b_rem {a b : Int} : binA kd .rem (.int q a) (.int q b) = if b = 0 then none else some (.int q (a.tmod b)) := by simp [binA, intA]
theorem b_pnil {b i o : Nat} : binA .ptr .eql (.ptr b i o) .nilp = some (.bool false) := by simp [binA, eqA]
theorem b_pnilT {t : TypeId} {b : Nat} : binA .ptr .eql (.tptr t b) .nilp = some (.bool false) := by simp [binA, eqA]
theorem b_pnn : binA .ptr .eql .nilp .nilp = some (.bool true) := by simp [binA, eqA]
theorem b_pnilN {b i o : Nat} : binA .ptr .neq (.ptr b i o) .nilp = some (.bool true) := by simp [binA, eqA]
theorem b_pnilTN {t : TypeId} {b : Nat} : binA .ptr .neq (.tptr t b) .nilp = some (.bool true) := by simp [binA, eqA]
theorem b_pnnN : binA .ptr .neq .nilp .nilp = some (.bool false) := by simp [binA, eqA]
theorem b_inil {t : TypeId} {v : AV} {ks : Option (List Kd)} {cy : Bool} : binR .iface ks cy .neq (.iface t v) .nili = some (.bool true) := by simp [binR, binA, eqA]
theorem b_inn {ks : Option (List Kd)} : binR .iface ks true .neq .nili .nili = some (.bool false) := by simp [binR, isIf]
theorem b_inilE {t : TypeId} {v : AV} {ks : Option (List Kd)} {cy : Bool} : binR .iface ks cy .eql (.iface t v) .nili = some (.bool false) := by simp [binR, binA, eqA]
theorem b_innE {ks : Option (List Kd)} : binR .iface ks true .eql .nili .nili = some (.bool true) := by simp [binR, isIf]
theorem simB : (type_of% @List.length_cons.{0}) ∧ (type_of% @List.length_nil.{0}) ∧ (type_of% @List.cons_append.{0}) ∧ (type_of% @List.nil_append.{0}) ∧ (type_of% @List.map_cons.{0, 0}) ∧ (type_of% @List.map_nil.{0, 0}) ∧ (type_of% @Option.bind_some.{0, 0}) ∧ (type_of% @Option.map_some.{0, 0}) ∧ (type_of% @Option.bind_none.{0, 0}) ∧ (type_of% @Option.map_none.{0, 0}) ∧ (type_of% @if_true.{1}) ∧ (type_of% @if_false.{1}) ∧ (type_of% @decide_true) ∧ (type_of% @decide_false) ∧ (type_of% @Bool.false_eq_true) ∧ (type_of% @Bool.true_eq_false) ∧ (type_of% @Bool.not_true) ∧ (type_of% @Bool.not_false) ∧ (type_of% @Bool.and_true) ∧ (type_of% @Bool.true_and) ∧ (type_of% @Bool.and_false) ∧ (type_of% @Bool.false_and) ∧ (type_of% @Bool.or_true) ∧ (type_of% @Bool.true_or) ∧ (type_of% @Bool.or_false) ∧ (type_of% @Bool.false_or) ∧ (type_of% @true_and) ∧ (type_of% @and_true) ∧ (type_of% @false_and) ∧ (type_of% @and_false) ∧ (type_of% @List.take_zero.{0}) ∧ (type_of% @List.take_succ_cons.{0}) ∧ (type_of% @List.drop_zero.{0}) ∧ (type_of% @List.drop_succ_cons.{0}) ∧ (type_of% @List.take_nil.{0}) ∧ (type_of% @List.drop_nil.{0}) ∧ (type_of% @List.set_cons_zero.{0}) ∧ (type_of% @List.set_cons_succ.{0}) ∧ (type_of% @Nat.zero_add) ∧ (type_of% @Nat.lt_add_one) ∧ (type_of% @Nat.le_refl) ∧ (type_of% @Int.toNat_natCast) :=
  ⟨@List.length_cons.{0}, @List.length_nil.{0}, @List.cons_append.{0}, @List.nil_append.{0}, @List.map_cons.{0, 0}, @List.map_nil.{0, 0}, @Option.bind_some.{0, 0}, @Option.map_some.{0, 0}, @Option.bind_none.{0, 0}, @Option.map_none.{0, 0}, @if_true.{1}, @if_false.{1}, @decide_true, @decide_false, @Bool.false_eq_true, @Bool.true_eq_false, @Bool.not_true, @Bool.not_false, @Bool.and_true, @Bool.true_and, @Bool.and_false, @Bool.false_and, @Bool.or_true, @Bool.true_or, @Bool.or_false, @Bool.false_or, @true_and, @and_true, @false_and, @and_false, @List.take_zero.{0}, @List.take_succ_cons.{0}, @List.drop_zero.{0}, @List.drop_succ_cons.{0}, @List.take_nil.{0}, @List.drop_nil.{0}, @List.set_cons_zero.{0}, @List.set_cons_succ.{0}, @Nat.zero_add, @Nat.lt_add_one, @Nat.le_refl, @Int.toNat_natCast⟩
theorem sim : (type_of% @r_nil) ∧ (type_of% @r_ss_nil) ∧ (type_of% @r_ops) ∧ (type_of% @r_cond) ∧ (type_of% @r_block) ∧ (type_of% @r_loop) ∧ (type_of% @r_exit) ∧ (type_of% @r_ret) ∧ (type_of% @r_blk) ∧ (type_of% @r_ops_nil) ∧ (type_of% @r_callf) ∧ (type_of% @r_g) ∧ (type_of% @r_pan) ∧ (type_of% @r_halt) ∧ (type_of% @r_mv) ∧ (type_of% @r_pick) ∧ (type_of% @r_build) ∧ (type_of% @r_nilc) ∧ (type_of% @r_bin) ∧ (type_of% @r_binG) ∧ (type_of% @r_un) ∧ (type_of% @r_conv) ∧ (type_of% @r_mki) ∧ (type_of% @r_mkf) ∧ (type_of% @r_slc) ∧ (type_of% @r_fad) ∧ (type_of% @r_fld) ∧ (type_of% @r_ixa) ∧ (type_of% @r_ix) ∧ (type_of% @r_tas) ∧ (type_of% @r_ext) ∧ (type_of% @r_len) ∧ (type_of% @r_alloc) ∧ (type_of% @r_bsl) ∧ (type_of% @r_bslM) ∧ (type_of% @r_load) ∧ (type_of% @r_store) ∧ (type_of% @r_mks) ∧ (type_of% @r_app) ∧ (type_of% @rV_some) ∧ (type_of% @rH_some) ∧ (type_of% @rS_some) ∧ (type_of% @rC_ret) ∧ (type_of% @rC_panic) ∧ (type_of% @rG_true) ∧ (type_of% @rG_false) ∧ (type_of% @rB_bool) ∧ (type_of% @rE_some) ∧ (type_of% @pick_bool) ∧ (type_of% @cFR_ret) ∧ (type_of% @cFR_panic) ∧ (type_of% @arg_v) ∧ (type_of% @arg_l) ∧ (type_of% @arg_c) ∧ (type_of% @putV_v) ∧ (type_of% @putV_l) ∧ (type_of% @putV_n) ∧ (type_of% @putL_v) ∧ (type_of% @putL_l) ∧ (type_of% @putL_n) ∧ (type_of% @g_eq) ∧ (type_of% @gB_bool) ∧ (type_of% @gB_tup) ∧ (type_of% @e_blk) ∧ (type_of% @e_ss) ∧ (type_of% @e_lp) ∧ (type_of% @e_ops) ∧ (type_of% @res_nil) ∧ (type_of% @res_v) ∧ (type_of% @res_cell) ∧ (type_of% @one_1) ∧ (type_of% @one_2) ∧ (type_of% @one_3) ∧ (type_of% @one_0) ∧ (type_of% @fg_not) ∧ (type_of% @cR_some) ∧ (type_of% @b_add) ∧ (type_of% @b_sub) ∧ (type_of% @b_mul) ∧ (type_of% @b_eql) ∧ (type_of% @b_neq) ∧ (type_of% @b_lss) ∧ (type_of% @b_leq) ∧ (type_of% @b_gtr) ∧ (type_of% @b_geq) ∧ (type_of% @b_and) ∧ (type_of% @b_or) ∧ (type_of% @b_andNot) ∧ (type_of% @b_seql) ∧ (type_of% @b_sneq) ∧ (type_of% @b_beql) ∧ (type_of% @b_bneq) ∧ (type_of% @b_snil) ∧ (type_of% @b_snilnil) ∧ (type_of% @b_snilM) ∧ (type_of% @u_not) ∧ (type_of% @u_neg) ∧ (type_of% @c_int) ∧ (type_of% @c_str) ∧ (type_of% @l_ptr) ∧ (type_of% @l_ip) ∧ (type_of% @ld_one) ∧ (type_of% @f_ptr) ∧ (type_of% @f_ip) ∧ (type_of% @n_ptr) ∧ (type_of% @n_ip) ∧ (type_of% @len_nils) ∧ (type_of% @len_isl) ∧ (type_of% @len_msl) ∧ (type_of% @len_str) ∧ (type_of% @fits_nils) ∧ (type_of% @fits_isl) ∧ (type_of% @fits_msl) ∧ (type_of% @fits_str) ∧ (type_of% @set_same) ∧ (type_of% @set_n) ∧ (type_of% @set_ids) ∧ (type_of% @set_hw) ∧ (type_of% @push_same) ∧ (type_of% @push_n) ∧ (type_of% @push_ids) ∧ (type_of% @push_hw) ∧ (type_of% @fresh_cell) ∧ (type_of% @fresh_n) ∧ (type_of% @fresh_ids) ∧ (type_of% @fresh_hw) ∧ (type_of% @grow_cell) ∧ (type_of% @grow_n) ∧ (type_of% @grow_ids) ∧ (type_of% @grow_hw) ∧ (type_of% @k_zero) ∧ (type_of% @k_succ) ∧ (type_of% @k_set0) ∧ (type_of% @k_set1) ∧ (type_of% @k_nil) ∧ (type_of% @x_zero) ∧ (type_of% @x_succ) ∧ (type_of% @x_nil) ∧ (type_of% @r_box) ∧ (type_of% @r_ck) ∧ (type_of% @s_1) ∧ (type_of% @s_2) ∧ (type_of% @s_3) ∧ (type_of% @cells_agg) ∧ (type_of% @cells_int) ∧ (type_of% @cells_bool) ∧ (type_of% @cells_str) ∧ (type_of% @cells_nils) ∧ (type_of% @cells_nilp) ∧ (type_of% @cells_isl) ∧ (type_of% @cells_msl) ∧ (type_of% @cells_ptr) ∧ (type_of% @one_int) ∧ (type_of% @one_bool) ∧ (type_of% @one_str) ∧ (type_of% @one_nils) ∧ (type_of% @one_nilp) ∧ (type_of% @one_isl) ∧ (type_of% @one_msl) ∧ (type_of% @one_ptr) ∧ (type_of% @one_iface) ∧ (type_of% @all_cons) ∧ (type_of% @all_nil) ∧ (type_of% @ext_tup) ∧ (type_of% @fill_nil) ∧ (type_of% @fill_cons) ∧ (type_of% @fill_some) ∧ (type_of% @fillE_nil) ∧ (type_of% @fillE_cons) ∧ (type_of% @st_all) ∧ (type_of% @st_nil) ∧ (type_of% @st_cons) ∧ (type_of% @st_succ) ∧ (type_of% @set_set) ∧ (type_of% @set_push) ∧ (type_of% @r_apps) ∧ (type_of% @r_tbox) ∧ (type_of% @r_talloc) ∧ (type_of% @r_mm) ∧ (type_of% @l_tptr) ∧ (type_of% @f_tptr0) ∧ (type_of% @f_tptr1) ∧ (type_of% @f_tptr2) ∧ (type_of% @f_tptr3) ∧ (type_of% @n_tptr) ∧ (type_of% @s_1T) ∧ (type_of% @cells_tptr) ∧ (type_of% @one_tptr) ∧ (type_of% @mm_min) ∧ (type_of% @mm_max) ∧ (type_of% @b_rem) ∧ (type_of% @b_pnil) ∧ (type_of% @b_pnilT) ∧ (type_of% @b_pnn) ∧ (type_of% @b_pnilN) ∧ (type_of% @b_pnilTN) ∧ (type_of% @b_pnnN) ∧ (type_of% @b_inil) ∧ (type_of% @b_inn) ∧ (type_of% @b_inilE) ∧ (type_of% @b_innE) ∧ (type_of% @chk_nil) ∧ (type_of% @chk_none) ∧ (type_of% @chk_some) ∧ (type_of% @fg_bool) ∧ (type_of% @fg_int) ∧ (type_of% @fg_str) ∧ (type_of% @ld_all) ∧ (type_of% @push2_same) ∧ (type_of% @push2_old) ∧ (type_of% @set_push2) ∧ (type_of% @push3_same) ∧ (type_of% @push3_1) ∧ (type_of% @push3_0) ∧ (type_of% @set_push3) :=
  ⟨@r_nil, @r_ss_nil, @r_ops, @r_cond, @r_block, @r_loop, @r_exit, @r_ret, @r_blk, @r_ops_nil, @r_callf, @r_g, @r_pan, @r_halt, @r_mv, @r_pick, @r_build, @r_nilc, @r_bin, @r_binG, @r_un, @r_conv, @r_mki, @r_mkf, @r_slc, @r_fad, @r_fld, @r_ixa, @r_ix, @r_tas, @r_ext, @r_len, @r_alloc, @r_bsl, @r_bslM, @r_load, @r_store, @r_mks, @r_app, @rV_some, @rH_some, @rS_some, @rC_ret, @rC_panic, @rG_true, @rG_false, @rB_bool, @rE_some, @pick_bool, @cFR_ret, @cFR_panic, @arg_v, @arg_l, @arg_c, @putV_v, @putV_l, @putV_n, @putL_v, @putL_l, @putL_n, @g_eq, @gB_bool, @gB_tup, @e_blk, @e_ss, @e_lp, @e_ops, @res_nil, @res_v, @res_cell, @one_1, @one_2, @one_3, @one_0, @fg_not, @cR_some, @b_add, @b_sub, @b_mul, @b_eql, @b_neq, @b_lss, @b_leq, @b_gtr, @b_geq, @b_and, @b_or, @b_andNot, @b_seql, @b_sneq, @b_beql, @b_bneq, @b_snil, @b_snilnil, @b_snilM, @u_not, @u_neg, @c_int, @c_str, @l_ptr, @l_ip, @ld_one, @f_ptr, @f_ip, @n_ptr, @n_ip, @len_nils, @len_isl, @len_msl, @len_str, @fits_nils, @fits_isl, @fits_msl, @fits_str, @set_same, @set_n, @set_ids, @set_hw, @push_same, @push_n, @push_ids, @push_hw, @fresh_cell, @fresh_n, @fresh_ids, @fresh_hw, @grow_cell, @grow_n, @grow_ids, @grow_hw, @k_zero, @k_succ, @k_set0, @k_set1, @k_nil, @x_zero, @x_succ, @x_nil, @r_box, @r_ck, @s_1, @s_2, @s_3, @cells_agg, @cells_int, @cells_bool, @cells_str, @cells_nils, @cells_nilp, @cells_isl, @cells_msl, @cells_ptr, @one_int, @one_bool, @one_str, @one_nils, @one_nilp, @one_isl, @one_msl, @one_ptr, @one_iface, @all_cons, @all_nil, @ext_tup, @fill_nil, @fill_cons, @fill_some, @fillE_nil, @fillE_cons, @st_all, @st_nil, @st_cons, @st_succ, @set_set, @set_push, @r_apps, @r_tbox, @r_talloc, @r_mm, @l_tptr, @f_tptr0, @f_tptr1, @f_tptr2, @f_tptr3, @n_tptr, @s_1T, @cells_tptr, @one_tptr, @mm_min, @mm_max, @b_rem, @b_pnil, @b_pnilT, @b_pnn, @b_pnilN, @b_pnilTN, @b_pnnN, @b_inil, @b_inn, @b_inilE, @b_innE, @chk_nil, @chk_none, @chk_some, @fg_bool, @fg_int, @fg_str, @ld_all, @push2_same, @push2_old, @set_push2, @push3_same, @push3_1, @push3_0, @set_push3⟩
end
end Go.Proofs.YtngphebjmmencaaDoor
