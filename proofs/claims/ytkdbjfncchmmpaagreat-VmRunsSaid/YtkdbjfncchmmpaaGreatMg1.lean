/- A plain model of what a call does, without addresses, capacities and orders: values are trees, slices are lists. The evaluation 'runK' of a function's body in it. -/
import Derived.WalkKit
import Derived.WalkSpells
import Derived.Deep.Draws
import Derived.Laws.Rows
import Derived.Maps.AppendAt
import Derived.Deep.AppendLies
import Derived.Laws.ResultCell
import Derived.Lib.LaidTab
import Derived.Lib.ItoaNum
import Derived.Laws.StructEq
import Derived.Laws.CopyRow
import Derived.Lib.SliceRun
import Derived.Laws.Pointers
import Derived.WideLaws
import Derived.Great.FillDense
import Derived.Lib.AppendStr
import Derived.Great.BuildSlice
import Derived.Laws.MakeOwn
import Derived.Laws.OwnMore
namespace Go.Proofs.YtkdbjfncchmmpaaGreat
open Nat renaming reduceAdd→θ,reduceSub→ξ,reduceLeDiff→ψ,reduceLT→ω
open List renaming replicate→η
set_option linter.unusedSimpArgs false
set_option linter.unusedVariables false
set_option linter.unusedSimpArgs false
set_option linter.unusedVariables false
open Go
inductive AV where
 | junk
 | bool (b:Bool)
 | int (k:IntKind) (n:Int)
 | str (s:List UInt8)
 | nilp
 | ptr (b i off:Nat)
 | tptr (t:TypeId) (b:Nat)
 | ip (e:List AV) (off:Nat)
 | nils
 | isl (id:Option Nat) (el:TypeId) (es:List (List AV))
 | msl (b o n:Nat) (el:TypeId)
 | fn (f:FuncId) (first captured:List AV)
 | nilf
 | nili
 | iface (t:TypeId) (v:AV)
 | agg (cs:List AV)
 | tup (vs:List AV)
 deriving Inhabited
abbrev i64 (n:Int):AV:= .int .i64 n
def AV.cells:AV→List AV
 | .agg cs=>cs
 | v=>[v]
def AV.one:AV→Bool
 | .junk | .agg _ | .tup _=>false
 | _=>true
structure AH where
 n:Nat
 cell:Nat→Option (List (List AV))
 ids:Nat
 hw:Nat→Nat
def AH.set (h:AH) (b:Nat) (es:Option (List (List AV))):AH:={h with cell:=fun k=>if k=b then es else h.cell k}
def AH.push (h:AH) (es:List (List AV)):AH:={h with n:=h.n+1,cell:=fun k=>if k=h.n then some es else h.cell k}
def AH.grow (h:AH) (id m:Nat):AH:={h with hw:=fun k=>if k=id then m else h.hw k}
def AH.fresh (h:AH) (m:Nat):AH:={h with ids:=h.ids+1,hw:=fun k=>if k=h.ids then m else h.hw k}
def lg:Value→AV
 | .bool b=> .bool b
 | .int k n=> .int k n
 | .string s=> .str s.data.toList
 | .pointer none=> .nilp
 | .slice none 0 0=> .nils
 | .nilFunc=> .nilf
 | .nilIface=> .nili
 | _=> .junk
def qr:Value→AV
 | .agg cs=> .agg (cs.toList.map lg)
 | v=>lg v
def evA (t:List AV):Operand→AV
 | .tmp i=>t.getD i .junk
 | .const v=>qr v
 | .func f=> .fn f [] []
 | .global _=> .junk
def cz (t:List AV) (d:Option Tmp) (v:AV):List AV:=
 match d with
 | some i=>t.set i v
 | none=>t
section
variable (P:Program)
def szA (t:TypeId):Nat:=P.cellsOf t
def iK (t:TypeId):Bool:=match P.underlying t with
 | some (.struct _) | some (.array ..)=>true
 | _=>false
def eH (t:TypeId):Option (List AV):=if t<P.types.size then(P.info? t).bind fun i=>i.zero.map fun v=>(qr v).cells else none
def gS (t:TypeId):Option (List (Nat×TypeId)):=match P.underlying t with
 | some (.struct fs)=>some (fs.toList.map fun f=>(f.offset,f.type))
 | _=>none
def d8 (t:TypeId):Option TypeId:=if t<P.types.size then match P.underlying t with
 | some (.slice e)=>some e
 | _=>none else none
def ri (t:TypeId):Option (Nat×TypeId):=match P.underlying t with
 | some (.array n e)=>some (n,e)
 | _=>none
inductive Kd where
 | bool | int (k:IntKind) | str | ptr | slice | iface | func | agg | other
def cB (t:TypeId):Kd:=match P.underlying t with
 | some .bool=> .bool
 | some (.int k)=> .int k
 | some .string=> .str
 | some (.pointer _)=> .ptr
 | some (.slice _)=> .slice
 | some (.interface _)=> .iface
 | some (.func ..)=> .func
 | some (.struct _) | some (.array ..)=> .agg
 | _=> .other
end
def fZ (P:Program) (t:TypeId):Bool:=match P.underlying t with
 | some .string=>true
 | _=>false
def Ck (P:Program) (t:TypeId):Bool:=(d8 P t).isSome
def nE (P:Program) (t:TypeId):Bool:=match P.underlying t with
 | some (.interface _)=>false
 | some _=>true
 | none=>false
def sr (P:Program) (t:TypeId):AV→Bool
 | .str _=>fZ P t
 | .isl _ el _=>d8 P t==some el
 | .msl _ _ _ el=>d8 P t==some el
 | .nils=>Ck P t
 | _=>false
def ldA (agg:Bool) (n:Nat) (e:List AV) (off:Nat):Option AV:=
 if agg then(if off+n≤e.length then some (.agg ((e.drop off).take n))else none)else e[off]?
def stA (e:List AV) (off:Nat) (cs:List AV):List AV:=e.take off++cs++e.drop (off+cs.length)
def AH.row (h:AH) (b i:Nat):Option (List AV):=(h.cell b).bind (·[i]?)
def aR (agg:Bool) (n:Nat) (h:AH):AV→Option AV
 | .ptr b i off=>(h.row b i).bind fun e=>ldA agg n e off
 | .tptr _ b=>(h.row b 0).bind fun e=>ldA agg n e 0
 | .ip e off=>ldA agg n e off
 | _=>none
def aZ (n:Nat) (h:AH) (a x:AV):Option AH:=
 match a with
 | .ptr b i off=>(h.cell b).bind fun es=>(es[i]?).bind fun e=>
   if x.cells.all AV.one∧x.cells.length=n∧off+n≤e.length then some (h.set b (some (es.set i (stA e off x.cells))))else none
 | .tptr _ b=>(h.cell b).bind fun es=>(es[0]?).bind fun e=>
   if x.cells.all AV.one∧x.cells.length=n∧0+n≤e.length then some (h.set b (some (es.set 0 (stA e 0 x.cells))))else none
 | _=>none
def jX:List (Nat×Nat)→List AV→List (Nat×AV)→Option (List AV)
 | _,cs,[]=>some cs
 | pl,cs,(i,v)::r=>match pl[i]? with
   | some (off,size)=>if v.cells.length=size∧off+size≤cs.length∧v.cells.all AV.one then jX pl (stA cs off v.cells) r else none
   | none=>none
def jT:Nat→List (List AV)→List (Nat×AV)→Option (List (List AV))
 | _,es,[]=>some es
 | sz,es,(i,v)::r=>if v.cells.length=sz∧i<es.length∧v.cells.all AV.one then jT sz (es.set i v.cells) r else none
def oT (op:BinOp) (k:IntKind) (a b:Int):Option AV:=
 match op with
 | .add=>some (.int k (k.wrap (a+b)))
 | .sub=>some (.int k (k.wrap (a - b)))
 | .mul=>some (.int k (k.wrap (a*b)))
 | .eql=>some (.bool (a==b))
 | .neq=>some (.bool (a != b))
 | .lss=>some (.bool (a<b))
 | .leq=>some (.bool (a≤b))
 | .gtr=>some (.bool (a>b))
 | .geq=>some (.bool (a≥b))
 | .and=>some (.int k (k.wrap (BitVec.ofInt k.bits a &&& BitVec.ofInt k.bits b).toNat))
 | .or=>some (.int k (k.wrap (BitVec.ofInt k.bits a ||| BitVec.ofInt k.bits b).toNat))
 | .andNot=>some (.int k (k.wrap (BitVec.ofInt k.bits a &&& ~~~(BitVec.ofInt k.bits b)).toNat))
 | .rem=>if b=0 then none else some (.int k (a.tmod b))
 | _=>none
def eqA:Kd→AV→AV→Option Bool
 | .bool,.bool a,.bool b=>some (a==b)
 | .ptr,.nilp,.nilp=>some true
 | .ptr,.nilp,.ptr .. =>some false
 | .ptr,.nilp,.ip .. =>some false
 | .ptr,.nilp,.tptr .. =>some false
 | .ptr,.tptr ..,.nilp=>some false
 | .ptr,.ptr ..,.nilp=>some false
 | .ptr,.ip ..,.nilp=>some false
 | .slice,.nils,.nils=>some true
 | .slice,.isl ..,.nils=>some false
 | .slice,.msl ..,.nils=>some false
 | .slice,.nils,.isl .. =>some false
 | .slice,.nils,.msl .. =>some false
 | .func,.nilf,.nilf=>some true
 | .func,.fn ..,.nilf=>some false
 | .func,.nilf,.fn .. =>some false
 | .iface,.iface ..,.nili=>some false
 | .iface,.nili,.iface .. =>some false
 | _,_,_=>none
def bO (kd:Kd) (op:BinOp) (x y:AV):Option AV:=
 match x,y with
 | .int k a,.int k' b=>
   match op with
   | .shl=>if b<0 then none else some (.int k (k.wrap (a*2 ^ min b.toNat k.bits)))
   | .shr=>if b<0 then none else some (.int k (a.fdiv (2 ^ min b.toNat k.bits)))
   | _=>if k=k' then oT op k a b else none
 | .str a,.str b=>match op with
   | .add=>if a.length+b.length≤1000000000000 then some (.str (a++b))else none
   | .eql=>some (.bool (a==b))
   | .neq=>some (.bool (a != b))
   | _=>none
 | x,y=>match op with
   | .eql=>(eqA kd x y).map .bool
   | .neq=>(eqA kd x y).map fun b=> .bool !b
   | _=>none
def eJ:List Kd→List AV→List AV→Option Bool
 | [],[],[]=>some true
 | .int _::ks,.int k a::xs,.int k' b::ys=>if k=k' then(eJ ks xs ys).map fun r=>(a==b) && r else none
 | .bool::ks,.bool a::xs,.bool b::ys=>(eJ ks xs ys).map fun r=>(a==b) && r
 | .str::ks,.str a::xs,.str b::ys=>(eJ ks xs ys).map fun r=>(a==b) && r
 | _,_,_=>none
def pS (P:Program) (t:TypeId):Option (List Kd):=match P.underlying t with
 | some (.struct fs)=>if !P.stoodInHeld t && !P.eqGuardType P.depth t && (fs.toList.zipIdx.all fun(f,i)=>f.name != "_" && f.offset==i && P.cellsOf f.type==1)then some (fs.toList.map fun f=>cB P f.type)else none
 | _=>none
def aT (t:List AV) (o:Oper):Option (FuncId×List AV):=
 match o.op with
 | .call {callee:= .value f,args,..}=>match evA t f with
   | .fn g first captured=>some (g,first++args.toList.map (evA t)++captured)
   | _=>none
 | _=>none
def eW:AV→Option Nat
 | .nils=>some 0
 | .isl _ _ es=>some es.length
 | .msl _ _ n _=>some n
 | .str s=>some s.length
 | _=>none
def cE (h:AH) (sz:TypeId):AV→Option (List (List AV))
 | .nils=>some []
 | .isl _ z es=>if z=sz then some es else none
 | .msl b o n z=>if z=sz then(h.cell b).bind fun es=>if o+n≤es.length then some ((es.drop o).take n)else none else none
 | _=>none
def pb (el:TypeId) (s:AV) (h:AH):Option (AV×AH):=match s with
 | .nils=>some (.nils,h)
 | .isl id z es=>if z=el then some (.isl id z es,h)else none
 | .msl b o n z=>if z=el then some (.msl b o n z,h)else none
 | _=>none
def eS (mu:Bool) (el:TypeId) (s:AV) (new:List (List AV)) (h:AH):Option (AV×AH):=
 if 0<new.length∧new.length≤1000000∧new.all (·.all AV.one)then
  match s with
  | .nils=>if mu then some (.msl h.n 0 new.length el,h.push new)else some (.isl (some h.ids) el new,h.fresh new.length)
  | .isl (some k) z es=>if z=el∧h.hw k=es.length∧es.length≤1000000 then some (.isl (some k) el (es++new),h.grow k (es.length+new.length))else none
  | .msl b o n z=>if z=el∧o=0∧n≤1000000 then
    (h.cell b).bind fun es=>if n≤es.length then some (.msl h.n 0 (n+new.length) el,(h.set b none).push (es.take n++new))else none
    else none
  | _=>none
 else none
def aQ (mu:Bool) (el:TypeId) (s x:AV) (h:AH):Option (AV×AH):=
 match x with
 | .nils=>pb el s h
 | x=>(cE h el x).bind fun new=>if new.length=0 then pb el s h else eS mu el s new h
abbrev kQ (l:List UInt8):List (List AV):=l.map fun c=>[.int .u8 c.toNat]
def Pl (P:Program) (e:TypeId):Bool:=match P.info? e with
 | some i=>(match i.zero with | some (.int .u8 n)=>n==0 | _=>false) && i.size==1 && i.bytes==1
 | none=>false
def qW (mu:Bool) (el:TypeId) (s x:AV) (h:AH):Option (AV×AH):=
 match x with
 | .str l=>if l.length=0 then pb el s h else if l.length≤1000000000 then(match s with
   | .nils=>if mu then some (.msl h.n 0 l.length el,h.push (kQ l))else none
   | .msl b o n z=>if z=el∧o=0∧n≤1000000000 then
     (h.cell b).bind fun es=>if n≤es.length then some (.msl h.n 0 (n+l.length) el,(h.set b none).push (es.take n++kQ l))else none
     else none
   | _=>none)else none
 | _=>none
def loA:Option AV→Option Int
 | none=>some 0
 | some (.int _ l)=>some l
 | _=>none
def hiA (n:Nat):Option AV→Option Int
 | none=>some n
 | some (.int _ r)=>some r
 | _=>none
def Bw (x:AV) (l r:Int):Option AV:=
 match x with
 | .str s=>some (.str ((s.drop l.toNat).take (r.toNat - l.toNat)))
 | .isl _ z es=>some (.isl none z ((es.drop l.toNat).take (r.toNat - l.toNat)))
 | .nils=>some .nils
 | .msl b o _ z=>if l=0 then some (.msl b o r.toNat z)else none
 | _=>none
def mX (x:AV) (lo hi:Option AV):Option AV:=
 (loA lo).bind fun l=>(eW x).bind fun n=>(hiA n hi).bind fun r=>if 0≤l∧l≤r∧r≤n then Bw x l r else none
def unA (op:UnOp) (x:AV):Option AV:=
 match op,x with
 | .not,.bool b=>some (.bool !b)
 | .neg,.int k n=>some (.int k (k.wrap (0 - n)))
 | _,_=>none
def cvA (kd:Kd) (x:AV):Option AV:=
 match kd,x with
 | .int k,.int _ n=>some (.int k (k.wrap n))
 | .str,.str s=>some (.str s)
 | _,_=>none
def mmA (mx:Bool):AV→AV→Option AV
 | .int k a,.int _ b=>some (.int k (if mx then(if b>a then b else a)else(if b<a then b else a)))
 | _,_=>none
def aP (off:Nat):AV→Option AV
 | .ptr b i o=>some (.ptr b i (o+off))
 | .tptr t b=>some (if off=0 then .tptr t b else .ptr b 0 off)
 | .ip e o=>some (.ip e (o+off))
 | _=>none
def fv (P:Program) (ty:TypeId) (x k:AV):Option AV:=
 match x,k with
 | .isl _ el es,.int _ k=>if d8 P ty=some el∧0≤k then(es[k.toNat]?).map fun e=> .ip e 0 else none
 | .msl b o n el,.int _ k=>if d8 P ty=some el∧0≤k∧k<n then some (.ptr b (o+k.toNat) 0)else none
 | .ptr b i off,.int _ k=>(ri P ty).bind fun q=>if szA P q.2≠0∧0≤k∧k<q.1 then some (.ptr b i (off+k.toNat*szA P q.2))else none
 | .ip e off,.int _ k=>(ri P ty).bind fun q=>if szA P q.2≠0∧0≤k∧k<q.1 then some (.ip e (off+k.toNat*szA P q.2))else none
 | _,_=>none
def ixA (P:Program) (ty:TypeId) (x k:AV):Option AV:=
 match x,k with
 | .str s,.int _ k=>if fZ P ty=true∧0≤k then(s[k.toNat]?).map fun c=> .int .u8 c.toNat else none
 | .agg cs,.int _ k=>(ri P ty).bind fun q=>if(P.underlying q.2).isSome∧szA P q.2≠0∧0≤k∧k<q.1 then ldA (iK P q.2) (szA P q.2) cs (k.toNat*szA P q.2)else none
 | _,_=>none
def cD (P:Program) (t:List AV) (o:Oper):Option AV:=
 match o.op with
 | .move x=>some (evA t x)
 | .assign x=>some (evA t x)
 | .pick c a b=>match evA t c with
   | .bool v=>some (if v then evA t a else evA t b)
   | _=>none
 | .build ty parts=>(eH P ty).bind fun z=>match gS P ty with
   | some pl=>if pl.all (fun q=>szA P q.2 != 0)then(jX (pl.map fun q=>(q.1,szA P q.2)) z (parts.toList.map fun q=>(q.1,evA t q.2))).map .agg else none
   | none=>(ri P ty).bind fun q=>if szA P q.2=0 then none else(jX ((List.range q.1).map fun i=>(i*szA P q.2,szA P q.2)) z (parts.toList.map fun q=>(q.1,evA t q.2))).map .agg
 | .nilCheck x=>match evA t x with
   | .ptr b i off=>some (.ptr b i off)
   | .tptr t b=>some (.tptr t b)
   | .ip e off=>some (.ip e off)
   | .fn f a c=>some (.fn f a c)
   | .iface q v=>some (.iface q v)
   | _=>none
 | .binOp op ty x y _=>match evA t x,evA t y with
   | .nili,.nili=>match cB P ty,y,op with
     | .iface,.const _,.eql=>some (.bool true)
     | .iface,.const _,.neq=>some (.bool false)
     | _,_,_=>none
   | .agg xs,.agg ys=>(pS P ty).bind fun ks=>match op with
     | .eql=>(eJ ks xs ys).map fun b=> .bool b
     | .neq=>(eJ ks xs ys).map fun b=> .bool !b
     | _=>none
   | a,b=>bO (cB P ty) op a b
 | .unOp op _ x=>unA op (evA t x)
 | .convert src dst x=>if(P.underlying src).isNone then none else cvA (cB P dst) (evA t x)
 | .makeInterface ty x=>if nE P ty=false then none else if(evA t x).one then some (.iface ty (evA t x))else match evA t x with
   | .agg cs=>some (.iface ty (.agg cs))
   | _=>none
 | .makeFunc f first captured=>match f with
   | .func g=>some (.fn g (first.toList.map (evA t)) (captured.toList.map (evA t)))
   | _=>none
 | .slice ty x lo hi mx=>if mx.isSome || !sr P ty (evA t x)then none else mX (evA t x) (lo.map (evA t)) (hi.map (evA t))
 | .fieldAddr s x f=>((gS P s).bind (·[f]?)).bind fun q=>if szA P q.2=0 then none else aP q.1 (evA t x)
 | .field s x f=>((gS P s).bind (·[f]?)).bind fun q=>match evA t x with
   | .agg cs=>if szA P q.2=0∨(P.underlying q.2).isNone then none else ldA (iK P q.2) (szA P q.2) cs q.1
   | _=>none
 | .indexAddr ty x ix=>fv P ty (evA t x) (evA t ix)
 | .index ty x ix=>ixA P ty (evA t x) (evA t ix)
 | .typeAssert x _ aS ok=>match evA t x with
   | .iface q v=>if nE P aS=true∧q=aS then some (if ok then .tup [v,.bool true]else v)else none
   | _=>none
 | .extract x i=>match evA t x with
   | .tup vs=>vs[i]?
   | _=>none
 | .call {callee:= .builtin .len,args,argTypes}=>match args.toList,argTypes.toList with
   | [x],ty::_=>if sr P ty (evA t x)then(eW (evA t x)).map fun(n:Nat)=>i64 n else none
   | _,_=>none
 | .call {callee:= .builtin .min,args,..}=>match args.toList with
   | [x,y]=>mmA false (evA t x) (evA t y)
   | _=>none
 | .call {callee:= .builtin .max,args,..}=>match args.toList with
   | [x,y]=>mmA true (evA t x) (evA t y)
   | _=>none
 | _=>none
def be (P:Program) (mu:TypeId→Bool) (t:List AV) (h:AH) (o:Oper):Option (AV×AH):=
 match o.op with
 | .alloc e=>(eH P e).map fun z=>(if mu e then .tptr e h.n else .ptr h.n 0 0,h.push [z])
 | .box e x=>if(evA t x).cells.all AV.one∧(evA t x).cells.length=szA P e then some (if mu e then .tptr e h.n else .ptr h.n 0 0,h.push [(evA t x).cells])else none
 | .buildSlice ty len parts=>(d8 P ty).bind fun e=>(eH P e).bind fun z=>if len*szA P e≤16777216 then
   (jT (szA P e) (η len z) (parts.toList.map fun q=>(q.1,evA t q.2))).map fun es=>
    if mu ty then(.msl h.n 0 len e,h.push es)else if mu (ty+1000000)then(.isl none e es,h)else(.isl (some h.ids) e es,h.fresh len)
   else none
 | .load ty a=>if(P.underlying ty).isNone then none else(aR (iK P ty) (szA P ty) h (evA t a)).map fun v=>(v,h)
 | .store ty a x=>if szA P ty=0 then none else(aZ (szA P ty) h (evA t a) (evA t x)).map fun h'=>(.junk,h')
 | .makeSlice ty l c=>match evA t l,evA t c with
   | .int _ n,.int _ m=>(d8 P ty).bind fun e=>(eH P e).bind fun z=>
     if 0≤n∧n=m∧n≤100000 then some (.msl h.n 0 n.toNat e,h.push (η n.toNat z))else none
   | _,_=>none
 | .call {callee:= .builtin .append,args,argTypes}=>match args.toList,argTypes.toList with
   | [x,y],[ty,ty']=>if ty=ty' then(d8 P ty).bind fun e=>if(eH P e).isSome then aQ (mu ty) e (evA t x) (evA t y) h else none
     else if fZ P ty' then(d8 P ty).bind fun e=>if Pl P e then qW (mu ty) e (evA t x) (evA t y) h else none else none
   | _,_=>none
 | _=>(cD P t o).map fun v=>(v,h)
def mz (t:List AV) (o:Oper):Option AV:=
 match o.op with
 | .panic x=>match evA t x with
   | .iface q v=>some (.iface q v)
   | _=>none
 | _=>none
def bB (ops:Array Oper) (t:List AV) (o:Oper):Option Bool:=
 match o.guard with
 | none=>some true
 | some (j,want)=>match(ops[j]?).bind (·.dst)with
   | some d=>match t.getD d .junk with
     | .bool b=>some (if want then b else !b)
     | .tup _=>some false
     | _=>none
   | none=>none
inductive cX where
 | code (c:Code)
 | inBlock (id:Nat)
 | inLoop (c:Code)
 | ops (draw:Bool) (all:Array Oper) (l:List (Oper×List Oper))
 | halt (K:List Item)
def iU (id:Nat):List cX→Option (List cX)
 | []=>none
 | .inBlock i::k=>if i=id then some k else iU id k
 | .halt _::_=>none
 | _::k=>iU id k
inductive AEx where
 | ret
 | panic (v:AV)
 | halt (K:List Item)
def qo (P:Program) (t:List AV) (h:AH):List ResultVar→Option (List AV)
 | []=>some []
 | .tmp i::rs=>(qo P t h rs).map fun l=>t.getD i .junk::l
 | .cell i ty::rs=>if(P.underlying ty).isNone then none else(aR (iK P ty) (szA P ty) h (t.getD i .junk)).bind fun v=>(qo P t h rs).map fun l=>v::l
def gh:List AV→AV
 | [v]=>v
 | vs=> .tup vs
def qi (fn:Func) (t:List AV) (h:AH) (P:Program):Option AV:=(qo P t h fn.results.toList).map gh
def eP (o:Oper):Bool:=match o.op with
 | .alloc _ | .box .. | .buildSlice .. | .store .. | .makeSlice .. | .panic _=>false
 | .call {callee:= .builtin .append,..}=>false
 | .call {callee:= .value _,..}=>false
 | _=>true
def jS (o:Oper):Bool:=match o.op with
 | .load .. =>true
 | _=>false
def kw (M:Array Nat) (i j:Nat):Bool:=(M.getD j 0).testBit i
def tx (ops:Array Oper) (M:Array Nat):Bool:=
 (List.range ops.size).all fun j=>(List.range ops.size).all fun i=> !kw M i j || ((ops[j]?).any fun o=>o.after.any fun e=>Region.binds .any e && decide (e.on<j) && (e.on==i || kw M i e.on))
def oS (Z:TypeId→Bool) (o:Oper):Bool:=match o.op,o.guard,o.dst with
 | .alloc e,none,some _=>Z e && decide (e<2000000)
 | _,_,_=>false
def jR (Z:TypeId→Bool) (o:Oper):Bool:=eP o || (match o.op with | .buildSlice ty _ _=>Z (ty+2000000) | _=>false)
def Dv (Z:TypeId→Bool) (ops:Array Oper) (M:Array Nat) (x y:Nat×List Nat):Bool:=
 let ox:=ops.getD x.1 default
 let oy:=ops.getD y.1 default
 x.1 != y.1 &&
 -- y is named by no edge of x,and must not come ahead of x
 !(ox.after.any fun e=>Region.binds .any e && e.on==y.1) && !kw M y.1 x.1 &&
 (jR Z ox || oS Z oy || kw M x.1 y.1) &&
 (jR Z oy || !jS ox || kw M x.1 y.1 || y.2.contains x.1) &&
 (match oy.dst with | some d=> !(ox.looksAt ops).contains d && ox.dst != some d | none=>true) &&
 (match ox.dst with | some d=> !(oy.looksAt ops).contains d || kw M x.1 y.1 | none=>true)
def sd (Z:TypeId→Bool) (ops:Array Oper) (M:Array Nat):List (Nat×List Nat)→Bool
 | []=>true
 | x::r=>r.all (Dv Z ops M x) && sd Z ops M r
def Gs (Z:TypeId→Bool) (ops:Array Oper) (pl:List (Nat×List Nat)):Bool:=
 let M:=Region.before ops
 (List.range ops.size).all (fun i=>pl.any fun q=>q.1==i) && pl.all (fun q=>decide (q.1<ops.size) && (let o:=ops.getD q.1 default
  (match o.dst with | some d=> !(o.looksAt ops).contains d | none=>true) && (!eP o || q.2.isEmpty) && (match o.op with | .select .. =>false | _=>true) && q.2.all fun i=>decide (i<ops.size))) &&
 ((List.range ops.size).all fun j=>(ops.getD j default).after.all fun e=> !Region.binds .any e || decide (e.on<j)) &&
 tx ops M && sd Z ops M pl
def BD (E:List (Nat×Nat)) (ops:Array Oper) (M:Array Nat) (x y:Nat×List Nat):Bool:=
 let ox:=ops.getD x.1 default
 let oy:=ops.getD y.1 default
 let p:=kw M x.1 y.1 || E.contains (x.1,y.1)
 x.1 != y.1 && (eP ox || p) && (eP oy || !jS ox || p || y.2.contains x.1) &&
 (match oy.dst with | some d=> !(ox.looksAt ops).contains d && ox.dst != some d | none=>true) &&
 (match ox.dst with | some d=> !(oy.looksAt ops).contains d || p | none=>true)
def np (E:List (Nat×Nat)) (ops:Array Oper) (pl:List (Nat×List Nat)):Bool:=
 let M:=Region.before ops
 (List.range ops.size).all (fun i=>pl.any fun q=>q.1==i) && pl.all (fun q=>decide (q.1<ops.size)) && pl.all (fun q=>let o:=ops.getD q.1 default
  (match o.dst with | some d=> !(o.looksAt ops).contains d | none=>true)) &&
 ((List.range ops.size).all fun j=>(ops.getD j default).after.all fun e=> !Region.binds .any e || decide (e.on<j)) &&
 tx ops M && ((List.range pl.length).all fun j=>(List.range j).all fun i=>BD E ops M (pl.getD i default) (pl.getD j default))
def gi (o:Oper):Bool:=match o.op,o.guard,o.dst with
 | .store ..,none,none=>true
 | _,_,_=>false
def CQ (ops:Array Oper) (pl:List (Nat×List Nat)):Bool:=match pl.reverse with
 | (y,[x'])::(x,[])::r=>x'==x && x != y && gi (ops.getD x default) && gi (ops.getD y default) && np [(x,y)] ops (r.reverse++[(x,[]),(y,[])]) && np [(y,x)] ops (r.reverse++[(y,[]),(x,[])])
 | _=>false
def vG (n:Nat) (Z:TypeId→Bool) (ops:Array Oper) (pl:List (Nat×List Nat)):Bool:=
 let M:=Region.before ops
 pl.length==n && (List.range n).all (fun i=>pl.any fun q=>q.1==i) && pl.all (fun q=>decide (q.1<n)) && pl.all (fun q=>let o:=ops.getD q.1 default
  (match o.dst with | some d=> !(o.looksAt ops).contains d | none=>true)) &&
 ((List.range ops.size).all fun j=>(ops.getD j default).after.all fun e=> !Region.binds .any e || decide (e.on<j)) &&
 tx ops M && sd Z ops M pl
def CH (Z:TypeId→Bool) (ops:Array Oper) (pl:List (Nat×List Nat)):Bool:=match pl.reverse with
 | (y,[])::r=>y+1==ops.size && (List.range y).all (fun i=>kw (Region.before ops) i y) && vG y Z ops r.reverse
 | _=>false
def tG (S:Nat→Bool) (ops:Array Oper):Bool:=ops.toList.all fun o=>match o.dst with | some d=> !S d | none=>true
def zOf (S:Nat→Bool) (e:TypeId):Bool:=S (1000000+e)
def dP (pl:Nat→List (Nat×List Nat)) (S:Nat→Bool):Code→Bool
 | .region id ops d=> !d || ((Gs (zOf S) ops (pl id) || CQ ops (pl id) || CH (zOf S) ops (pl id)) && tG S ops)
 | .seq a b=>dP pl S a && dP pl S b
 | .cond _ a b=>dP pl S a && dP pl S b
 | .block _ b=>dP pl S b
 | .loop b=>dP pl S b
 | _=>true
structure Pol where
 ext:FuncId→Option (List AV→AH→Option ((AV ⊕ AV)×AH))
 mu:FuncId→TypeId→Bool
 nv:FuncId→Nat
 plan:FuncId→Nat→List (Nat×List Nat)
 use:FuncId→Bool
 pure:FuncId→Bool
 kp:FuncId→Nat→Bool
mutual
def wkA:AV→Option AV
 | .isl _ z es=>(wkR es).map (.isl none z)
 | .agg cs=>(wkL cs).map .agg
 | .tup vs=>(wkL vs).map .tup
 | .iface t v=>(wkA v).map (.iface t)
 | .ip _ _ | .ptr _ _ _ | .tptr _ _ | .msl _ _ _ _ | .fn _ _ _=>none
 | .junk=>some .junk
 | .bool b=>some (.bool b)
 | .int k n=>some (.int k n)
 | .str s=>some (.str s)
 | .nilp=>some .nilp
 | .nils=>some .nils
 | .nilf=>some .nilf
 | .nili=>some .nili
def wkL:List AV→Option (List AV)
 | []=>some []
 | v::l=>match wkA v,wkL l with
   | some v,some l=>some (v::l)
   | _,_=>none
def wkR:List (List AV)→Option (List (List AV))
 | []=>some []
 | v::l=>match wkL v,wkR l with
   | some v,some l=>some (v::l)
   | _,_=>none
end
structure ab (h h':AH):Prop where
 n:h.n≤h'.n
 ids:h.ids≤h'.ids
 cell:∀ b,b<h.n→h'.cell b=h.cell b
 hw:∀ k,k<h.ids→h'.hw k=h.hw k
open Classical in
noncomputable def fgA (p:Bool) (h:AH) (q:(AV ⊕ AV)×AH):Option ((AV ⊕ AV)×AH):=
 if p=true then(if ab h q.2 then(match q.1 with
  | .inl v=>(wkA v).map fun v=>(.inl v,h)
  | .inr v=>(wkA v).map fun v=>(.inr v,h))else none)else some q
def pQ (P:Program) (all:Array Oper) (t:List AV) (h:AH):List Oper→Prop
 | []=>True
 | o::r=>(match bB all t o with
    | some true=>(match o.op,o.dst with
      | .load ty a,some d=>aR (iK P ty) (szA P ty) h (evA t a)=some (t.getD d .junk)
      | .store ty a x,none=>aR (iK P ty) (szA P ty) h (evA t a)=some (evA t x)
      | _,_=>False)
    | _=>True)∧pQ P all t h r
def dO (draw:Bool) (ops:Array Oper) (pl:List (Nat×List Nat)):List (Oper×List Oper):=
 if draw then pl.map fun q=>(ops.getD q.1 default,q.2.map fun i=>ops.getD i default)else ops.toList.map fun o=>(o,[])
def aa (n:Nat) (t:List AV):List AV:=t.take n++η (t.length - n) .junk
def Ma (P:Program) (fn:Func) (r:AEx×List AV×AH):Option ((AV ⊕ AV)×AH):=match r.1 with
 | .ret=>(qi fn r.2.1 r.2.2 P).map fun v=>(.inl v,r.2.2)
 | .panic v=>some (.inr v,r.2.2)
 | .halt _=>none
open Classical in
noncomputable def bC (P:Program) (po:Pol) (f:FuncId) (k:List cX) (t:List AV) (h:AH):Option (AEx×List AV×AH):=
 match k with
 | []=>some (.ret,t,h)
 | .inBlock _::k=>bC P po f k t h
 | .halt K::_=>some (.halt K,t,h)
 | .inLoop c::k=>bC P po f (.code c:: .inLoop c::k) (aa (po.nv f) t) h
 | .ops _ _ []::k=>bC P po f k t h
 | .ops dr all ((o,ck)::l)::k=>
   match bB all t o with
   | none=>none
   | some false=>bC P po f (.ops dr all l::k) (cz t o.dst (.tup [])) h
   | some true=>
    match mz t o with
    | some v=>some (.panic v,t,h)
    | none=>
     match aT t o with
     | some (g,args)=>
       match po.ext g with
       | some F=>F args h>>= fun r=>match r.1 with
         | .inl v=>if pQ P all (cz t o.dst v) r.2 ck then bC P po f (.ops dr all l::k) (cz t o.dst v) r.2 else none
         | .inr v=>some (.panic v,t,r.2)
       | none=>match P.funcs[g]? with
         | none=>none
         | some fn=>match fn.body with
           | none=>none
           | some c=>if po.use g=false then none else(bC P po g [.code c] (args++η (fn.ntmps - args.length) .junk) h)>>= fun r=>Ma P fn r>>= fun q=>fgA (po.pure g) h q>>= fun q=>match q.1 with
             | .inl v=>if pQ P all (cz t o.dst v) q.2 ck then bC P po f (.ops dr all l::k) (cz t o.dst v) q.2 else none
             | .inr v=>some (.panic v,t,q.2)
     | none=>be P (po.mu f) t h o>>= fun r=>if pQ P all (cz t o.dst r.1) r.2 ck then bC P po f (.ops dr all l::k) (cz t o.dst r.1) r.2 else none
 | .code c::k=>
   match c with
   | .skip=>bC P po f k t h
   | .label _=>bC P po f k t h
   | .seq a b=>bC P po f (.code a:: .code b::k) t h
   | .cond c x y=>match evA t c with
     | .bool b=>if b then bC P po f (.code x::k) t h else bC P po f (.code y::k) t h
     | _=>none
   | .block id b=>bC P po f (.code b:: .inBlock id::k) t h
   | .loop b=>bC P po f (.code b:: .inLoop b::k) (aa (po.nv f) t) h
   | .exit id=>iU id k>>= fun k'=>bC P po f k' t h
   | .ret=>some (.ret,t,h)
   | .region id ops d=>bC P po f (.ops d ops (dO d ops (po.plan f id))::k) t h
   | _=>none
partial_fixpoint
abbrev Cq:=Option (AEx×List AV×AH)
noncomputable def aj (P:Program) (po:Pol) (g:FuncId) (args:List AV) (h:AH):Option ((AV ⊕ AV)×AH):=
 match po.ext g with
 | some F=>F args h
 | none=>match P.funcs[g]? with
   | none=>none
   | some fn=>match fn.body with
     | none=>none
     | some c=>if po.use g=false then none else(bC P po g [.code c] (args++η (fn.ntmps - args.length) .junk) h).bind fun r=>(Ma P fn r).bind fun q=>fgA (po.pure g) h q
section
variable (P:Program) (po:Pol) (f:FuncId)
open Classical in
noncomputable def MH (dr:Bool) (all:Array Oper) (l:List (Oper×List Oper)) (k:List cX) (t:List AV) (h:AH) (ck:List Oper):Cq:=if pQ P all t h ck then bC P po f (.ops dr all l::k) t h else none
noncomputable def cOp (dr:Bool) (all:Array Oper) (d:Option Tmp) (ck:List Oper) (l:List (Oper×List Oper)) (k:List cX) (t:List AV):Option (AV×AH)→Cq
 | some (v,h)=>MH P po f dr all l k (cz t d v) h ck
 | none=>none
noncomputable def Ky (dr:Bool) (all:Array Oper) (d:Option Tmp) (ck:List Oper) (l:List (Oper×List Oper)) (k:List cX) (t:List AV):Option ((AV ⊕ AV)×AH)→Cq
 | some (.inl v,h)=>MH P po f dr all l k (cz t d v) h ck
 | some (.inr v,h)=>some (.panic v,t,h)
 | none=>none
noncomputable def pK (dr:Bool) (all:Array Oper) (o:Oper) (ck:List Oper) (l:List (Oper×List Oper)) (k:List cX) (t:List AV) (h:AH):Option (FuncId×List AV)→Cq
 | some (g,args)=>Ky P po f dr all o.dst ck l k t (aj P po g args h)
 | none=>cOp P po f dr all o.dst ck l k t (be P (po.mu f) t h o)
noncomputable def RU (dr:Bool) (all:Array Oper) (o:Oper) (ck:List Oper) (l:List (Oper×List Oper)) (k:List cX) (t:List AV) (h:AH):Option AV→Cq
 | some v=>some (.panic v,t,h)
 | none=>pK P po f dr all o ck l k t h (aT t o)
noncomputable def vq (dr:Bool) (all:Array Oper) (o:Oper) (ck:List Oper) (l:List (Oper×List Oper)) (k:List cX) (t:List AV) (h:AH):Option Bool→Cq
 | some true=>RU P po f dr all o ck l k t h (mz t o)
 | some false=>bC P po f (.ops dr all l::k) (cz t o.dst (.tup [])) h
 | none=>none
noncomputable def RX (x y:Code) (k:List cX) (t:List AV) (h:AH):AV→Cq
 | .bool b=>if b then bC P po f (.code x::k) t h else bC P po f (.code y::k) t h
 | _=>none
noncomputable def Wi (t:List AV) (h:AH):Option (List cX)→Cq
 | some k=>bC P po f k t h
 | none=>none
noncomputable def cF (p:Bool) (fn:Func) (h0:AH):Cq→Option ((AV ⊕ AV)×AH)
 | some (.ret,t,h)=>cR p h0 h (qi fn t h P)
 | some (.panic v,_,h)=>fgA p h0 (.inr v,h)
 | some (.halt _,_,_)=>none
 | none=>none
where cR (p:Bool) (h0 h:AH):Option AV→Option ((AV ⊕ AV)×AH)
 | some v=>fgA p h0 (.inl v,h)
 | none=>none
end
section
variable {P:Program} {po:Pol} {f:FuncId} {k:List cX} {t:List AV} {h:AH}
theorem Pm:bC P po f [] t h=some (.ret,t,h):=by rw[bC]
theorem MF {K:List Item}:bC P po f (.halt K::k) t h=some (.halt K,t,h):=by rw[bC]
theorem Bx {id:Nat}:bC P po f (.inBlock id::k) t h=bC P po f k t h:=by rw[bC]
theorem EB {c:Code}:bC P po f (.inLoop c::k) t h=bC P po f (.code c:: .inLoop c::k) (aa (po.nv f) t) h:=by rw[bC]
theorem B6 {dr:Bool} {all:Array Oper}:bC P po f (.ops dr all []::k) t h=bC P po f k t h:=by rw[bC]
theorem MT:bC P po f (.code .skip::k) t h=bC P po f k t h:=by rw[bC]
theorem GF {l:Nat}:bC P po f (.code (.label l)::k) t h=bC P po f k t h:=by rw[bC]
theorem yN {a b:Code}:bC P po f (.code (.seq a b)::k) t h=bC P po f (.code a:: .code b::k) t h:=by rw[bC]
theorem Hi {id:Nat} {b:Code}:bC P po f (.code (.block id b)::k) t h=bC P po f (.code b:: .inBlock id::k) t h:=by rw[bC]
theorem M4 {b:Code}:bC P po f (.code (.loop b)::k) t h=bC P po f (.inLoop b::k) t h:=by
 conv=>lhs;rw[bC]
 conv=>rhs;rw[bC]
theorem Ol:bC P po f (.code .ret::k) t h=some (.ret,t,h):=by rw[bC]
theorem DX {id:Nat} {ops:Array Oper} {d:Bool}:bC P po f (.code (.region id ops d)::k) t h=bC P po f (.ops d ops (dO d ops (po.plan f id))::k) t h:=by rw[bC]
theorem L1 {id:Nat}:bC P po f (.code (.exit id)::k) t h=Wi P po f t h (iU id k):=by
 rw[bC]
 cases iU id k<;>rfl
theorem Au {c:Operand} {x y:Code}:bC P po f (.code (.cond c x y)::k) t h=RX P po f x y k t h (evA t c):=by
 rw[bC]
 cases evA t c<;>rfl
theorem mf {dr:Bool} {all:Array Oper} {o:Oper} {ck:List Oper} {l:List (Oper×List Oper)}:bC P po f (.ops dr all ((o,ck)::l)::k) t h=vq P po f dr all o ck l k t h (bB all t o):=by
 rw[bC]
 rcases bB all t o with _ | ⟨_ | _⟩
 ·rfl
 ·rfl
 ·simp only[vq]
  rcases hp:mz t o with _ | v
  case some=>rfl
  simp only[RU]
  rcases hc:aT t o with _ | ⟨g,args⟩
  ·simp only[pK]
   rcases be P (po.mu f) t h o with _ | ⟨v,h'⟩<;>rfl
  ·simp only[pK,aj]
   cases hx:po.ext g with
   | some F=>
     simp only
     rcases F args h with _ | ⟨_ | _,h'⟩<;>rfl
   | none=>
     simp only
     cases hf:P.funcs[g]? with
     | none=>rfl
     | some fn=>
       simp only
       cases hb:fn.body with
       | none=>rfl
       | some c=>
         by_cases hu:po.use g=false
         ·simp only[hu,if_true]
          rfl
         ·simp only[hu,if_false,Bool.false_eq_true]
          generalize bC P po g [.code c] (args++η (fn.ntmps - args.length) .junk) h=r
          rcases r with _ | r
          ·rfl
          ·simp only[Option.bind_some,Option.bind_eq_bind]
           rcases Ma P fn r with _ | q
           ·rfl
           ·simp only[Option.bind_some]
            rcases fgA (po.pure g) h q with _ | ⟨_ | _,h'⟩<;>rfl
theorem vF {dr:Bool} {all:Array Oper} {o:Oper} {ck:List Oper} {l:List (Oper×List Oper)}:vq P po f dr all o ck l k t h (some true)=RU P po f dr all o ck l k t h (mz t o):=rfl
theorem Bm {dr:Bool} {all:Array Oper} {o:Oper} {ck:List Oper} {l:List (Oper×List Oper)}:RU P po f dr all o ck l k t h none=pK P po f dr all o ck l k t h (aT t o):=rfl
theorem Up {dr:Bool} {all:Array Oper} {o:Oper} {ck:List Oper} {l:List (Oper×List Oper)} {v:AV}:RU P po f dr all o ck l k t h (some v)=some (.panic v,t,h):=rfl
theorem Pc {dr:Bool} {all:Array Oper} {o:Oper} {ck:List Oper} {l:List (Oper×List Oper)}:vq P po f dr all o ck l k t h (some false)=bC P po f (.ops dr all l::k) (cz t o.dst (.tup [])) h:=rfl
theorem Kx {dr:Bool} {all:Array Oper} {o:Oper} {ck:List Oper} {l:List (Oper×List Oper)} {g:FuncId} {args:List AV}:pK P po f dr all o ck l k t h (some (g,args))=Ky P po f dr all o.dst ck l k t (aj P po g args h):=rfl
theorem Vq {dr:Bool} {all:Array Oper} {o:Oper} {ck:List Oper} {l:List (Oper×List Oper)}:pK P po f dr all o ck l k t h none=cOp P po f dr all o.dst ck l k t (be P (po.mu f) t h o):=rfl
theorem VK {dr:Bool} {all:Array Oper} {d:Option Tmp} {ck:List Oper} {l:List (Oper×List Oper)} {v:AV}:cOp P po f dr all d ck l k t (some (v,h))=MH P po f dr all l k (cz t d v) h ck:=rfl
theorem Va {dr:Bool} {all:Array Oper} {d:Option Tmp} {ck:List Oper} {l:List (Oper×List Oper)} {v:AV}:Ky P po f dr all d ck l k t (some (.inl v,h))=MH P po f dr all l k (cz t d v) h ck:=rfl
theorem LD {dr:Bool} {all:Array Oper} {d:Option Tmp} {ck:List Oper} {l:List (Oper×List Oper)} {v:AV}:Ky P po f dr all d ck l k t (some (.inr v,h))=some (.panic v,t,h):=rfl
theorem P6 {x y:Code}:RX P po f x y k t h (.bool true)=bC P po f (.code x::k) t h:=rfl
theorem M7 {x y:Code}:RX P po f x y k t h (.bool false)=bC P po f (.code y::k) t h:=rfl
theorem S9 {dr:Bool} {all:Array Oper} {l:List (Oper×List Oper)} {ck:List Oper} (hc:pQ P all t h ck):MH P po f dr all l k t h ck=bC P po f (.ops dr all l::k) t h:=by simp[MH,hc]
theorem U9 {k:List cX}:Wi P po f t h (some k)=bC P po f k t h:=rfl
theorem XC {fn:Func} {p:Bool} {h0:AH}:cF P p fn h0 (some (.ret,t,h))=cF.cR p h0 h (qi fn t h P):=rfl
theorem kX {p:Bool} {h0:AH} {v:AV}:cF.cR p h0 h (some v)=fgA p h0 (.inl v,h):=rfl
theorem ng {h0:AH} {q:(AV ⊕ AV)×AH}:fgA false h0 q=some q:=by simp[fgA]
theorem aI {h0:AH} {v v':AV} (hg:ab h0 h) (hv:wkA v=some v'):fgA true h0 (.inl v,h)=some (.inl v',h0):=by simp[fgA,hg,hv]
theorem rK {h0:AH} {v v':AV} (hg:ab h0 h) (hv:wkA v=some v'):fgA true h0 (.inr v,h)=some (.inr v',h0):=by simp[fgA,hg,hv]
theorem Mc {g:FuncId} {fn:Func} {c:Code} {args:List AV} {p:Bool} (hx:po.ext g=none) (hf:P.funcs[g]? =some fn) (hb:fn.body=some c) (hu:po.use g=true) (hp:po.pure g=p):
  aj P po g args h=cF P p fn h (bC P po g [.code c] (args++η (fn.ntmps - args.length) .junk) h):=by
 unfold aj
 simp only[hx,hf,hb,hu,hp]
 generalize bC P po g [.code c] (args++η (fn.ntmps - args.length) .junk) h=r
 rcases r with _ | ⟨_ | _ | _,t',h'⟩
 ·rfl
 ·simp only[Bool.true_eq_false,if_false,Option.bind_some,Ma,cF]
  rcases qi fn t' h' P with _ | v<;>rfl
 ·rfl
 ·rfl
end
open Go.RowKit
structure eN (F:Nat→Prop) (w w':World):Prop where
 os:w'.os=w.os
 tape:w'.tape=w.tape
 output:w'.output=w.output
 size:w.heap.size≤w'.heap.size
 block:∀ k,k<w.heap.size→¬ F k→w'.heap[k]? =w.heap[k]?
theorem eN.refl (F:Nat→Prop) (w:World):eN F w w:=⟨rfl,rfl,rfl,Nat.le_refl _,fun _ _ _=>rfl⟩
theorem eN.step {F G:Nat→Prop} {a b c:World} (h:eN F a b) (k:eN G b c) (hG:∀ i,i<a.heap.size→G i→F i):eN F a c:=
 ⟨k.os.trans h.os,k.tape.trans h.tape,k.output.trans h.output,Nat.le_trans h.size k.size,fun i hi hn=>(k.block i (Nat.lt_of_lt_of_le hi h.size) (fun hg=>hn (hG i hi hg))).trans (h.block i hi hn)⟩
theorem eN.drew {F:Nat→Prop} {a w:World} (h:eN F a w):eN F a w.drew:=⟨h.os,h.tape,h.output,h.size,h.block⟩
theorem eN.alloc {F:Nat→Prop} {a w:World} (h:eN F a w) (o:Obj):eN F a (w.alloc o):=
 ⟨h.os,h.tape,h.output,Nat.le_trans h.size (by simp),fun k hk hn=>(Below.heap_alloc w o k (Nat.lt_of_lt_of_le hk h.size)).trans (h.block k hk hn)⟩
end Go.Proofs.YtkdbjfncchmmpaaGreat
namespace Go.RowKit
open Go.Proofs.YtkdbjfncchmmpaaGreat
end Go.RowKit
namespace Go.Proofs.YtkdbjfncchmmpaaGreat
open Nat renaming reduceAdd→θ,reduceSub→ξ,reduceLeDiff→ψ,reduceLT→ω
open List renaming replicate→η
set_option linter.unusedSimpArgs false
set_option linter.unusedVariables false
set_option linter.unusedSimpArgs false
set_option linter.unusedVariables false
open Go.RowKit
abbrev New (w w':World):Prop:=eN (fun _=>False) w w'
theorem New.below {w w':World} (h:New w w'):Below w.heap.size w w':=⟨h.os,h.tape,h.output,h.size,fun k hk=>h.block k hk id⟩
theorem eN.below {F:Nat→Prop} {B:Nat} {w w':World} (h:eN F w w') (hF:∀ k,F k→B≤k) (hB:B≤w.heap.size):Below B w w':=
 ⟨h.os,h.tape,h.output,h.size,fun k hk=>h.block k (by omega) (fun hf=>by have:=hF k hf;omega)⟩
end Go.Proofs.YtkdbjfncchmmpaaGreat
namespace Go.RowKit
open Go.Proofs.YtkdbjfncchmmpaaGreat
end Go.RowKit
namespace Go.Proofs.YtkdbjfncchmmpaaGreat
open Nat renaming reduceAdd→θ,reduceSub→ξ,reduceLeDiff→ψ,reduceLT→ω
open List renaming replicate→η
set_option linter.unusedSimpArgs false
set_option linter.unusedVariables false
set_option linter.unusedSimpArgs false
set_option linter.unusedVariables false
open Go.RowKit
end Go.Proofs.YtkdbjfncchmmpaaGreat
namespace Go.RowKit
open Go.Proofs.YtkdbjfncchmmpaaGreat
end Go.RowKit
namespace Go.Proofs.YtkdbjfncchmmpaaGreat
open Nat renaming reduceAdd→θ,reduceSub→ξ,reduceLeDiff→ψ,reduceLT→ω
open List renaming replicate→η
set_option linter.unusedSimpArgs false
set_option linter.unusedVariables false
set_option linter.unusedSimpArgs false
set_option linter.unusedVariables false
open Go.RowKit
def Blk (w:World) (g:Nat) (t:TypeId) (cs:Array Value):Prop:=w.heap[g]? =some (.cells cs t (0,0))
section
variable {w w':World} {g:Nat} {t:TypeId} {cs:Array Value}
theorem Blk.lt (h:Blk w g t cs):g<w.heap.size:=by
 rcases Nat.lt_or_ge g w.heap.size with hlt | hge
 ·exact hlt
 ·unfold Blk at h;rw[Array.getElem?_eq_none hge]at h;cases h
theorem Blk.cell (h:Blk w g t cs) (i:Nat):w.cell? ⟨g,i,none⟩=cs[i]? :=cell_of_row w g i cs t (0,0) h
theorem Blk.new (w:World) (t:TypeId) (cs:Array Value):Blk (w.alloc (.cells cs t)) w.heap.size t cs:=heap_alloc_new w _
theorem Blk.only {F:Nat→Prop} (h:Blk w g t cs) (hb:eN F w w') (hg:¬ F g):Blk w' g t cs:=(hb.block g h.lt hg).trans h
end
def Sl (w:World) (size:Nat) (A:Option Addr) (n cap:Nat) (xs:List Value):Prop:=
 xs.length=n*size∧n≤cap∧(A=none→cap=0)∧∀ a,A=some a→(0<n→a.spot=none)∧∀ j u,xs[j]? =some u→w.cell? ⟨a.block,a.off+j,none⟩=some u
section
variable {w w':World} {size n cap:Nat} {A:Option Addr} {xs:List Value}
theorem Sl.some_ (h:Sl w size A n cap xs) (hn:0<n):∃ b o,A=some ⟨b,o,none⟩:=by
 obtain⟨_,hc,h0,h1⟩:=h
 rcases A with _ | a
 ·have:=h0 rfl;omega
 ·obtain⟨b,o,s⟩:=a
  have:=(h1 _ rfl).1 hn
  simp at this
  subst this
  exact⟨b,o,rfl⟩
theorem Sl.at0 {b o:Nat} (h:Sl w size (some ⟨b,o,none⟩) n cap xs) {p:Nat} {u:Value} (hj:xs[p]? =some u):w.cell? ⟨b,o+p,none⟩=some u:=(h.2.2.2 _ rfl).2 p u hj
theorem Sl.of_own {base:Nat} {e:TypeId} (h:w.ownsRow base e size (.slice A n cap) n xs):Sl w size A n cap xs:=by
 refine⟨h.1,?_⟩
 rcases h.2 with⟨hv,h0⟩ | ⟨g,cap',cur,hv,_,hh,hnc,_,hcs,htake⟩
 ·simp at hv
  obtain⟨rfl,rfl,rfl⟩:=hv
  exact⟨Nat.le_refl _,fun _=>rfl,(fun a h=>by cases h)⟩
 ·simp at hv
  obtain⟨rfl,rfl⟩:=hv
  refine⟨hnc,(fun h=>by cases h),fun a ha=> ?_⟩
  obtain rfl:=Option.some.inj ha
  refine⟨fun _=>rfl,fun j u hu=> ?_⟩
  have:=h.cells (g:=g) rfl j u hu
  rwa [Addr.add_lit]at this
theorem Sl.keep (h:Sl w size A n cap xs) (hk:∀ p:Addr,A.map (·.block)=some p.block→w.cell? p≠none→w'.cell? p=w.cell? p):Sl w' size A n cap xs:=by
 refine⟨h.1,h.2.1,h.2.2.1,fun a ha=>⟨(h.2.2.2 a ha).1,fun j u hu=> ?_⟩⟩
 have hc:=(h.2.2.2 a ha).2 j u hu
 rw[hk _ (by simp[ha]) (by rw[hc];simp)]
 exact hc
theorem wJ {p:Addr} (h:w.cell? p≠none):p.block<w.heap.size:=by
 rcases hc:w.cell? p with _ | u
 ·exact absurd hc h
 ·exact World.block_lt_of_cell? w p hc
theorem Sl.only {F:Nat→Prop} (h:Sl w size A n cap xs) (ho:eN F w w') (hF:∀ k,A.map (·.block)=some k→¬ F k):Sl w' size A n cap xs:=
 h.keep fun p hp hc=>World.cell?_of_block (ho.block _ (wJ hc) (hF _ hp))
theorem Sl.new (h:Sl w size A n cap xs) (ho:New w w'):Sl w' size A n cap xs:=h.only ho (fun _ _=>id)
theorem Sl.of_blk {g:Nat} {t:TypeId} {cs:Array Value} {o:Nat} (h:Blk w g t cs) (hn:n≤cap) (hx:xs.length=n*size) (hc:∀ j u,xs[j]? =some u→cs[o+j]? =some u):Sl w size (some ⟨g,o,none⟩) n cap xs:=
 by
 refine⟨hx,hn,(fun h=>by cases h),fun a ha=> ?_⟩
 obtain rfl:=Option.some.inj ha
 exact⟨fun _=>rfl,fun j u hu=>(h.cell (o+j)).trans (hc j u hu)⟩
end
theorem Ex {P:Program} (base:Nat) (t ty e:TypeId) (i:TypeInfo) (z:Value) (size bytes:Nat) (ht:P.underlying t=some (.slice e)) (hi:P.info? e=some i) (hz:i.zero=some z)
  (hsize:i.size=size) (hby:i.bytes=bytes) (hzs:z.cells.size=size) (hsz:0<size)
  (v:Value) (n:Nat) (xs:List Value) (w:World) (hown:w.ownsRow base e size v n xs) (A:Option Addr) (m c:Nat) (ys:List Value) (hr:Sl w size A m c ys) (h1:∀ u∈ys,u.oneCell'=true)
  (h63:n+m≤maxLen) (hbytes:(n+m)*bytes≤140737488355328) (hbase:base≤w.heap.size):
  ∃ v' w',(Builtin.append_ #[t,t] ty #[v,.slice A m c]).run P w= .ok v' w'∧w'.ownsRow base e size v' (n+m) (xs++ys)∧eN (fun k=>some k=v.ownBlock) w w'∧
    (v'.ownBlock=v.ownBlock∨v'.ownBlock=some w.heap.size)∧(0<n+m→∃ g cap,v'= .slice (some ⟨g,0,none⟩) (n+m) cap):=by
 rcases A with _ | ad
 ·have hc0:=hr.2.2.1 rfl
  have hmc:=hr.2.1
  obtain rfl:m=0:=by omega
  subst hc0
  have hn:ys=[]:=List.eq_nil_of_length_eq_zero (by simpa using hr.1)
  subst hn
  refine⟨v,w,run_append_owned_none (P:=P) w base t ty e i size ht hi v n xs hown,by simpa using hown,eN.refl _ _,.inl rfl,fun h0=> ?_⟩
  rcases hown.2 with⟨rfl,h⟩ | ⟨g,cap,cur,rfl,_⟩
  ·omega
  ·exact⟨g,cap,rfl⟩
 ·have hcells:∀ j u,ys[j]? =some u→w.cell? (ad.add j)=some u:=by
   intro j u hu
   obtain⟨hs,hcell⟩:=hr.2.2.2 ad rfl
   have:=hcell j u hu
   obtain⟨b,o,sp⟩:=ad
   have hm:0<m:=by
    rcases Nat.eq_zero_or_pos m with h0 | h0
    ·subst h0
     have hn:ys=[]:=List.eq_nil_of_length_eq_zero (by simpa using hr.1)
     subst hn
     simp at hu
    ·exact h0
   have hs:=hs hm
   simp at hs
   subst hs
   rw[Addr.add_lit]
   exact this
  obtain⟨v',w',hrun,h2,h3,h4,h5⟩:=run_append_own_at (P:=P) w base t ty e i z size bytes ht hi hz hsize hby hzs hsz v n xs hown ad m c ys hr.1 hcells h1 h63 hbytes hbase
  refine⟨v',w',hrun,h2,⟨h3.os,h3.tape,h3.output,h3.size,h3.block⟩,h5,fun h0=> ?_⟩
  rcases h2.2 with⟨_,h⟩ | ⟨g,cap,cur,rfl,_⟩
  ·omega
  ·exact⟨g,cap,rfl⟩
theorem wd {P:Program} {ops:Array Oper} {rest:List Oper} {o:Oper} {a:Act} {Q:Exit→Act→World→Prop} (hgd:o.guard=none) (s x:Operand) (t:TypeId)
  (ho:o.op= .call {callee:= .builtin .append,args:= #[s,x],argTypes:= #[t,t]})
  (base:Nat) (e:TypeId) (i:TypeInfo) (z:Value) (size bytes:Nat) (ht:P.underlying t=some (.slice e)) (hi:P.info? e=some i) (hz:i.zero=some z)
  (hsize:i.size=size) (hby:i.bytes=bytes) (hzs:z.cells.size=size) (hsz:0<size)
  (v:Value) (n:Nat) (xs:List Value) (w:World) (hs:a.eval s=v) (hown:w.ownsRow base e size v n xs) (A:Option Addr) (m c:Nat) (ys:List Value) (hx:a.eval x= .slice A m c) (hr:Sl w size A m c ys) (h1:∀ u∈ys,u.oneCell'=true)
  (h63:n+m≤maxLen) (hbytes:(n+m)*bytes≤140737488355328) (hbase:base≤w.heap.size)
  (h:∀ v' w',w'.ownsRow base e size v' (n+m) (xs++ys)→eN (fun k=>some k=v.ownBlock) w w'→(v'.ownBlock=v.ownBlock∨v'.ownBlock=some w.heap.size)→(0<n+m→∃ g cap,v'= .slice (some ⟨g,0,none⟩) (n+m) cap)→
   wpList P ops Q rest (a.put o.dst v') w'):wpList P ops Q (o::rest) a w:=by
 refine wpList_plain hgd fun _ hK=> ?_
 obtain⟨v',w',hrun,h2,h3,h4,h5⟩:=Ex (P:=P) base t o.type e i z size bytes ht hi hz hsize hby hzs hsz v n xs w hown A m c ys hr h1 h63 hbytes hbase
 unfold Oper.wp execOp
 simp only[ho,resolve,invoke,builtin,Sem.run_bind,Sem.run_pure,Result.andThen_ok,List.map_toArray,List.map_cons,List.map_nil,hs,hx,hrun]
 exact hK _ _ (h v' w' h2 h3 h4 h5)
theorem FV {F:Nat→Prop} {w w':World} {base:Nat} {e:TypeId} {size:Nat} {v:Value} {n:Nat} {xs:List Value} (h:w.ownsRow base e size v n xs) (ho:eN F w w') (hl:∀ g,v.ownBlock=some g→¬ F g):w'.ownsRow base e size v n xs:=by
 refine⟨h.1,?_⟩
 rcases h.2 with h1 | ⟨g,cap,cur,rfl,hg,hh,r⟩
 ·exact .inl h1
 ·exact .inr ⟨g,cap,cur,rfl,hg,(Blk.only (t:=e) hh ho (hl g rfl)),r⟩
@[simp] theorem TB (g n cap:Nat):(Value.slice (some ⟨g,0,none⟩) n cap).ownBlock=some g:=rfl
@[simp] theorem TC (n cap:Nat):(Value.slice none n cap).ownBlock=none:=rfl
theorem WL {α:Type} {f:α→List Value} {s:Nat} (hf:∀ a,(f a).length=s) (l:List α):(l.flatMap f).length=l.length*s:=by
 induction l with
 | nil=>simp
 | cons a l ih=>simp[List.flatMap_cons,ih,hf,Nat.add_mul];omega
open Go Go.RowKit
structure Mm where
 base:Nat
 blk:Nat→Nat
 bt:Nat→TypeId
 bsz:Nat→Nat
 imm:Nat→Nat→Option Value
 tg:Nat→Nat
 tc:Nat→Nat
 te:Nat→TypeId
 jk:Nat→Option Obj
inductive VR (P:Program) (m:Mm) (h:AH):AV→Value→Prop
 | junk (v:Value):VR P m h .junk v
 | bool (b:Bool):VR P m h (.bool b) (.bool b)
 | int (k:IntKind) (n:Int):VR P m h (.int k n) (.int k n)
 | str (l:List UInt8):VR P m h (.str l) (.string ⟨l.toArray⟩)
 | nilp:VR P m h .nilp (.pointer none)
 | ptr (b i off:Nat) (hb:b<h.n):VR P m h (.ptr b i off) (.pointer (some ⟨m.blk b,i*P.cellsOf (m.bt b)+off,none⟩))
 | tptr (t:TypeId) (b:Nat) (hb:b<h.n) (ht:m.bt b=t):VR P m h (.tptr t b) (.pointer (some ⟨m.blk b,0,none⟩))
 | ip (e:List AV) (off g o:Nat) (F:Nat→Value) (hi:∀ j,j<e.length→m.imm g (o+j)=some (F j)) (hv:∀ j (hj:j<e.length),VR P m h e[j] (F j)):VR P m h (.ip e off) (.pointer (some ⟨g,o+off,none⟩))
 | nils:VR P m h .nils (.slice none 0 0)
 | isl (id:Option Nat) (e:TypeId) (es:List (List AV)) (g o cap:Nat) (F:Nat→Nat→Value) (hl:∀ r∈es,r.length=P.cellsOf e)
   (hi:∀ i,i<es.length→∀ j,j<P.cellsOf e→m.imm g (o+(i*P.cellsOf e+j))=some (F i j)) (hv:∀ i (hi:i<es.length) j (hj:j<es[i].length),VR P m h es[i][j] (F i j)) (hc:es.length≤cap)
   (ht:∀ k,id=some k→k<h.ids∧m.te k=e∧es.length≤h.hw k∧(es.length=h.hw k→g=m.tg k∧o=0∧cap=m.tc k)):VR P m h (.isl id e es) (.slice (some ⟨g,o,none⟩) es.length cap)
 | isl0 (e:TypeId) (a:Addr) (cap:Nat):VR P m h (.isl none e []) (.slice (some a) 0 cap)
 | msl (b o n:Nat) (e:TypeId) (cap:Nat) (hb:b<h.n) (he:m.bt b=e) (hcap:(o+cap)*P.cellsOf e=m.bsz b) (hn:n≤cap) (hmx:cap≤maxLen):VR P m h (.msl b o n e) (.slice (some ⟨m.blk b,o*P.cellsOf e,none⟩) n cap)
 | fn (g:FuncId) (l c:List AV) (l' c':List Value) (h1:l'.length=l.length) (h2:c'.length=c.length) (h3:∀ j (hj:j<l.length) (hj':j<l'.length),VR P m h l[j] l'[j]) (h4:∀ j (hj:j<c.length) (hj':j<c'.length),VR P m h c[j] c'[j]):
   VR P m h (.fn g l c) (.func (.func g) l'.toArray c'.toArray)
 | nilf:VR P m h .nilf .nilFunc
 | nili:VR P m h .nili .nilIface
 | iface (t:TypeId) (v:AV) (v':Value) (h1:VR P m h v v'):VR P m h (.iface t v) (.iface t v')
 | agg (l:List AV) (l':List Value) (h1:l'.length=l.length) (h3:∀ j (hj:j<l.length) (hj':j<l'.length),VR P m h l[j] l'[j]):VR P m h (.agg l) (.agg l'.toArray)
 | tup (l:List AV) (l':List Value) (h1:l'.length=l.length) (h3:∀ j (hj:j<l.length) (hj':j<l'.length),VR P m h l[j] l'[j]):VR P m h (.tup l) (.tuple l'.toArray)
def VRs (P:Program) (m:Mm) (h:AH) (l:List AV) (l':List Value):Prop:=l'.length=l.length∧∀ j (hj:j<l.length) (hj':j<l'.length),VR P m h l[j] l'[j]
def Wu (P:Program):List (String×IntKind×List Int):=
 if(P.globalNamed ("internal"++String.singleton (Char.ofNat 47)++ "strconv.uint64pow10")).isSome then[("internal"++String.singleton (Char.ofNat 47)++ "strconv.uint64pow10",.u64,Lib.pow10Tab)]else[]
def WO (P:Program):List String:=["strconv.ErrSyntax", "strconv.ErrRange"].filter fun n=>(P.globalNamed n).isSome
structure xX (P:Program) (b:Nat) (w:World):Prop where
 tabs:∀ q∈Wu P,Lib.TabIs P w q.1 q.2.1 q.2.2∧∀ g,P.globalNamed q.1=some g→g<b
 errs:∀ n∈WO P,(∃ tp p,w.var? P n=some #[.iface tp p])∧∀ g,P.globalNamed n=some g→g<b
theorem Fl {P:Program} {n:String} {b:Nat} {w w':World} (h2:∀ g,P.globalNamed n=some g→g<b) (hb:b≤w.heap.size) (h:∀ g,g<w.heap.size→g<b→w'.heap[g]? =w.heap[g]?):w'.var? P n=w.var? P n:=by
 unfold World.var?
 rcases hn:P.globalNamed n with _ | g
 ·rfl
 ·have hlt:=h2 g hn
  simp only[Option.bind_some]
  rw[h g (by omega) hlt]
theorem xX.keep {P:Program} {b:Nat} {w w':World} (hg:xX P b w) (hb:b≤w.heap.size) (h:∀ g,g<w.heap.size→g<b→w'.heap[g]? =w.heap[g]?):xX P b w':=by
 refine⟨fun q hq=> ?_,fun n hn=> ?_⟩
 ·obtain⟨h1,h2⟩:=hg.tabs q hq
  refine⟨?_,h2⟩
  unfold Lib.TabIs at h1 ⊢
  rw[Fl h2 hb h]
  exact h1
 ·obtain⟨h1,h2⟩:=hg.errs n hn
  refine⟨?_,h2⟩
  rw[Fl h2 hb h]
  exact h1
structure WR (P:Program) (m:Mm) (h:AH) (w:World):Prop where
 size:m.base≤w.heap.size
 lt:∀ b es,h.cell b=some es→b<h.n∧m.base≤m.blk b
 live:∀ b es,h.cell b=some es→∃ cs,Blk w (m.blk b) (m.bt b) cs∧cs.size=m.bsz b∧(∀ r∈es,r.length=P.cellsOf (m.bt b))∧es.length*P.cellsOf (m.bt b)≤cs.size∧
  ∀ i (hi:i<es.length) j (hj:j<es[i].length),∃ v,cs[i*P.cellsOf (m.bt b)+j]? =some v∧VR P m h es[i][j] v
 inj:∀ b b' es es',h.cell b=some es→h.cell b'=some es'→m.blk b=m.blk b'→b=b'
 imm:∀ g o v,m.imm g o=some v→w.cell? ⟨g,o,none⟩=some v
 sep:∀ b es,h.cell b=some es→∀ o,m.imm (m.blk b) o=none
 tip:∀ k,k<h.ids→∃ xs,w.ownsRow m.base (m.te k) (P.cellsOf (m.te k)) (.slice (some ⟨m.tg k,0,none⟩) (h.hw k) (m.tc k)) (h.hw k) xs
 tfree:∀ k,k<h.ids→∀ o,h.hw k*P.cellsOf (m.te k)≤o→m.imm (m.tg k) o=none
 tblk:∀ k,k<h.ids→∀ b es,h.cell b=some es→m.blk b≠m.tg k
 tinj:∀ k k',k<h.ids→k'<h.ids→m.tg k=m.tg k'→k=k'
 good:xX P m.base w
 jk:∀ g x,m.jk g=some x→m.base≤g∧w.heap[g]? =some x∧(∀ b es,h.cell b=some es→m.blk b≠g)∧(∀ k,k<h.ids→m.tg k≠g)∧∀ o,m.imm g o=none
structure Ext (m:Mm) (h:AH) (m':Mm) (h':AH):Prop where
 base:m'.base=m.base
 n:h.n≤h'.n
 ids:h.ids≤h'.ids
 blk:∀ b,b<h.n→m'.blk b=m.blk b∧m'.bt b=m.bt b∧m'.bsz b=m.bsz b
 imm:∀ g o v,m.imm g o=some v→m'.imm g o=some v
 te:∀ k,k<h.ids→m'.te k=m.te k∧h.hw k≤h'.hw k∧(h'.hw k=h.hw k→m'.tg k=m.tg k∧m'.tc k=m.tc k)
 jk:∀ g x,m.jk g=some x→m'.jk g=some x
theorem Ext.refl (m:Mm) (h:AH):Ext m h m h:=⟨rfl,Nat.le_refl _,Nat.le_refl _,fun _ _=>⟨rfl,rfl,rfl⟩,fun _ _ _ h=>h,fun _ _=>⟨rfl,Nat.le_refl _,fun _=>⟨rfl,rfl⟩⟩,fun _ _ h=>h⟩
theorem Ext.trans {m1 m2 m3:Mm} {h1 h2 h3:AH} (x:Ext m1 h1 m2 h2) (y:Ext m2 h2 m3 h3):Ext m1 h1 m3 h3:=by
 refine⟨y.base.trans x.base,Nat.le_trans x.n y.n,Nat.le_trans x.ids y.ids,fun b hb=> ?_,fun g o v h=>y.imm g o v (x.imm g o v h),fun k hk=> ?_,fun g v h=>y.jk g v (x.jk g v h)⟩
 ·obtain⟨a1,a2,a3⟩:=x.blk b hb
  obtain⟨b1,b2,b3⟩:=y.blk b (Nat.lt_of_lt_of_le hb x.n)
  exact⟨b1.trans a1,b2.trans a2,b3.trans a3⟩
 ·obtain⟨a1,a2,a3⟩:=x.te k hk
  obtain⟨b1,b2,b3⟩:=y.te k (Nat.lt_of_lt_of_le hk x.ids)
  refine⟨b1.trans a1,Nat.le_trans a2 b2,fun e=> ?_⟩
  obtain⟨c1,c2⟩:=a3 (by omega)
  obtain⟨d1,d2⟩:=b3 (by omega)
  exact⟨d1.trans c1,d2.trans c2⟩
section
variable {P:Program} {m m':Mm} {h h':AH} {w w':World}
theorem VR.ext (x:Ext m h m' h') {v:AV} {u:Value} (r:VR P m h v u):VR P m' h' v u:=by
 induction r with
 | junk v=>exact .junk v
 | bool b=>exact .bool b
 | int k n=>exact .int k n
 | str l=>exact .str l
 | nilp=>exact .nilp
 | ptr b i off hb=>
   obtain⟨a1,a2,a3⟩:=x.blk b hb
   have:=VR.ptr (P:=P) (m:=m') (h:=h') b i off (Nat.lt_of_lt_of_le hb x.n)
   rwa [a1,a2]at this
 | tptr t b hb ht=>
   obtain⟨a1,a2,a3⟩:=x.blk b hb
   have:=VR.tptr (P:=P) (m:=m') (h:=h') t b (Nat.lt_of_lt_of_le hb x.n) (a2.trans ht)
   rwa [a1]at this
 | ip e off g o F hi hv ih=>exact .ip e off g o F (fun j hj=>x.imm _ _ _ (hi j hj)) ih
 | nils=>exact .nils
 | isl id e es g o cap F hl hi hv hc ht ih=>
   refine .isl id e es g o cap F hl (fun i hi' j hj=>x.imm _ _ _ (hi i hi' j hj)) ih hc (fun k hk=> ?_)
   obtain⟨h1,h2,h3,h4⟩:=ht k hk
   obtain⟨t1,t2,t3⟩:=x.te k h1
   refine⟨Nat.lt_of_lt_of_le h1 x.ids,t1.trans h2,Nat.le_trans h3 t2,fun e'=> ?_⟩
   obtain⟨c1,c2,c3⟩:=h4 (by omega)
   obtain⟨d1,d2⟩:=t3 (by omega)
   exact⟨c1.trans d1.symm,c2,c3.trans d2.symm⟩
 | isl0 e a cap=>exact .isl0 e a cap
 | msl b o n e cap hb he hcap hn hmx=>
   obtain⟨a1,a2,a3⟩:=x.blk b hb
   have:=VR.msl (P:=P) (m:=m') (h:=h') b o n e cap (Nat.lt_of_lt_of_le hb x.n) (a2.trans he) (hcap.trans a3.symm) hn hmx
   rwa [a1]at this
 | fn g l c l' c' h1 h2 h3 h4 ih1 ih2=>exact .fn g l c l' c' h1 h2 ih1 ih2
 | nilf=>exact .nilf
 | nili=>exact .nili
 | iface t v v' h1 ih=>exact .iface t v v' ih
 | agg l l' h1 h3 ih=>exact .agg l l' h1 ih
 | tup l l' h1 h3 ih=>exact .tup l l' h1 ih
theorem VR.untag {v:AV} {u:Value} (r:VR P m h v u):∃ v',VR P m h v' u∧(∀ t b,v'≠.tptr t b)∧(∀ agg n,aR agg n h v'=aR agg n h v)∧∀ n x,aZ n h v' x=aZ n h v x:=by
 by_cases hv:∃ t b,v= .tptr t b
 ·obtain⟨t,b,rfl⟩:=hv
  cases r with
  | tptr _ _ hb ht=>
    refine⟨.ptr b 0 0,?_,(fun _ _ e=>nomatch e),fun _ _=>rfl,fun _ _=>rfl⟩
    have:=VR.ptr (P:=P) (m:=m) (h:=h) b 0 0 hb
    simpa using this
 ·exact⟨v,r,fun t b e=>hv ⟨t,b,e⟩,fun _ _=>rfl,fun _ _=>rfl⟩
theorem VR.und:VR P m h (.tup []) undef:=VR.tup [] [] rfl (fun j hj=>by simp at hj)
theorem VRs.nil:VRs P m h [] []:=⟨rfl,fun j hj=>by simp at hj⟩
theorem VRs.cons {a:AV} {b:Value} {l:List AV} {l':List Value} (h1:VR P m h a b) (h2:VRs P m h l l'):VRs P m h (a::l) (b::l'):=by
 refine⟨by simp[h2.1],fun j hj hj'=> ?_⟩
 cases j with
 | zero=>exact h1
 | succ j=>exact h2.2 j (by simpa using hj) (by simpa using hj')
theorem VRs.append {l1 l2:List AV} {r1 r2:List Value} (h1:VRs P m h l1 r1) (h2:VRs P m h l2 r2):VRs P m h (l1++l2) (r1++r2):=by
 refine⟨by simp[h1.1,h2.1],fun j hj hj'=> ?_⟩
 by_cases hlt:j<l1.length
 ·rw[List.getElem_append_left hlt,List.getElem_append_left (by rw[h1.1];exact hlt)]
  exact h1.2 j hlt _
 ·rw[List.getElem_append_right (by omega),List.getElem_append_right (by rw[h1.1];omega)]
  have e:=h1.1
  simp only[e]
  exact h2.2 _ _ _
theorem VRs.map {α:Type} {f:α→AV} {g:α→Value} {l:List α} (hf:∀ x∈l,VR P m h (f x) (g x)):VRs P m h (l.map f) (l.map g):=by
 refine⟨by simp,fun j hj hj'=> ?_⟩
 simp only[List.getElem_map]
 exact hf _ (List.getElem_mem _)
theorem VRs.get? {l:List AV} {l':List Value} (r:VRs P m h l l') {j:Nat} {v:AV} (hv:l[j]? =some v):∃ u,l'[j]? =some u∧VR P m h v u:=by
 obtain⟨hj,rfl⟩:=List.getElem?_eq_some_iff.1 hv
 have hj':j<l'.length:=by rw[r.1];exact hj
 exact⟨l'[j],List.getElem?_eq_getElem hj',r.2 j hj hj'⟩
theorem WR.below (hw:WR P m h w) {b:Nat} {es:List (List AV)} (hb:h.cell b=some es):m.blk b<w.heap.size:=by
 obtain⟨cs,hc,_⟩:=hw.live b es hb
 exact hc.lt
theorem WR.imm_lt (hw:WR P m h w) {g o:Nat} {v:Value} (hi:m.imm g o=some v):g<w.heap.size:=by
 have:=hw.imm g o v hi
 exact wJ (w:=w) (p:=⟨g,o,none⟩) (by rw[this];simp)
theorem WR.tip_lt (hw:WR P m h w) {k:Nat} (hk:k<h.ids):m.base≤m.tg k∧m.tg k<w.heap.size:=by
 obtain⟨xs,hx⟩:=hw.tip k hk
 exact hx.lt _ rfl
theorem WR.only {S:Nat→Prop} (hw:WR P m h w) (ho:eN S w w') (h1:∀ b es,h.cell b=some es→¬ S (m.blk b)) (h2:∀ g o v,m.imm g o=some v→¬ S g) (h3:∀ k,k<h.ids→¬ S (m.tg k)) (h4:∀ g,g<m.base→¬ S g) (h5:∀ g x,m.jk g=some x→¬ S g):WR P m h w':=by
 refine⟨Nat.le_trans hw.size ho.size,hw.lt,fun b es hb=> ?_,hw.inj,fun g o v hi=> ?_,hw.sep,fun k hk=> ?_,hw.tfree,hw.tblk,hw.tinj,hw.good.keep hw.size fun g hg hb=>ho.block g hg (h4 g hb),fun g x hx=> ?_⟩
 ·obtain⟨cs,hc,hr⟩:=hw.live b es hb
  exact⟨cs,hc.only ho (h1 b es hb),hr⟩
 ·rw[World.cell?_of_block (w:=w) (ho.block _ (hw.imm_lt hi) (h2 g o v hi))]
  exact hw.imm g o v hi
 ·obtain⟨xs,hx⟩:=hw.tip k hk
  exact⟨xs,FV hx ho (fun g hg=>by
   simp at hg
   subst hg
   exact h3 k hk)⟩
 ·obtain⟨a1,a2,a3⟩:=hw.jk g x hx
  exact⟨a1,(ho.block g (Array.getElem?_eq_some_iff.1 a2).1 (h5 g x hx)).trans a2,a3⟩
theorem WR.jk_lt (hw:WR P m h w) {g:Nat} {x:Obj} (hx:m.jk g=some x):g<w.heap.size:=(Array.getElem?_eq_some_iff.1 (hw.jk g x hx).2.1).1
theorem WR.new (hw:WR P m h w) (ho:New w w'):WR P m h w':=hw.only ho (fun _ _ _=>id) (fun _ _ _ _=>id) (fun _ _=>id) (fun _ _=>id) (fun _ _ _=>id)
theorem WR.drew (hw:WR P m h w):WR P m h w.drew:=hw.new (eN.refl _ _).drew
theorem WR.push (hw:WR P m h w) (w':World) (e:TypeId) (es:List (List AV)) (cs:Array Value) (hn:New w w') (hbk:Blk w' w.heap.size e cs) (hs:es.length*P.cellsOf e≤cs.size) (hl:∀ r∈es,r.length=P.cellsOf e)
  (hv:∀ i (hi:i<es.length) j (hj:j<es[i].length),∃ v,cs[i*P.cellsOf e+j]? =some v∧VR P m h es[i][j] v):
  ∃ m',Ext m h m' (h.push es)∧WR P m' (h.push es) w'∧m'.blk h.n=w.heap.size∧m'.bt h.n=e∧m'.bsz h.n=cs.size:=by
 refine⟨{m with blk:=fun b=>if b=h.n then w.heap.size else m.blk b,bt:=fun b=>if b=h.n then e else m.bt b,bsz:=fun b=>if b=h.n then cs.size else m.bsz b},?_,?_,by simp,by simp,by simp⟩
 ·exact⟨rfl,by simp[AH.push],by simp[AH.push],fun b hb=>by simp[show b≠h.n by omega],fun _ _ _ h=>h,fun k hk=>⟨rfl,Nat.le_refl _,fun _=>⟨rfl,rfl⟩⟩,fun _ _ h=>h⟩
 ·have hx:Ext m h {m with blk:=fun b=>if b=h.n then w.heap.size else m.blk b,bt:=fun b=>if b=h.n then e else m.bt b,bsz:=fun b=>if b=h.n then cs.size else m.bsz b} (h.push es):=
   ⟨rfl,by simp[AH.push],by simp[AH.push],fun b hb=>by simp[show b≠h.n by omega],fun _ _ _ h=>h,fun k hk=>⟨rfl,Nat.le_refl _,fun _=>⟨rfl,rfl⟩⟩,fun _ _ h=>h⟩
  have hw1:=hw.new hn
  have old:∀ b x,(h.push es).cell b=some x→b≠h.n→h.cell b=some x:=by
   intro b x hb hne
   simpa[AH.push,hne]using hb
  have new:∀ b x,(h.push es).cell b=some x→b=h.n→x=es:=by
   intro b x hb he
   subst he
   simp[AH.push]at hb
   exact hb.symm
  refine⟨hw1.size,fun b x hb=> ?_,fun b x hb=> ?_,fun b b' x x' hb hb' he=> ?_,hw1.imm,fun b x hb o=> ?_,hw1.tip,hw1.tfree,fun k hk b x hb=> ?_,hw1.tinj,hw1.good,fun g x hx=> ?_⟩
  ·by_cases hbn:b=h.n
   ·subst hbn
    exact⟨by simp[AH.push],by simpa using hw.size⟩
   ·have:=hw.lt b x (old b x hb hbn)
    exact⟨by simp[AH.push];omega,by simpa[hbn]using this.2⟩
  ·by_cases hbn:b=h.n
   ·subst hbn
    have:=new _ _ hb rfl
    subst this
    refine⟨cs,by simpa using hbk,by simp,by simpa using hl,by simpa using hs,fun i hi j hj=> ?_⟩
    obtain⟨v,h1,h2⟩:=hv i hi j hj
    exact⟨v,by simpa using h1,h2.ext hx⟩
   ·obtain⟨cs',h1,h2,h3,h4,h5⟩:=hw1.live b x (old b x hb hbn)
    refine⟨cs',by simpa[hbn]using h1,by simpa[hbn]using h2,by simpa[hbn]using h3,by simpa[hbn]using h4,fun i hi j hj=> ?_⟩
    obtain⟨v,h6,h7⟩:=h5 i hi j hj
    exact⟨v,by simpa[hbn]using h6,h7.ext hx⟩
  ·by_cases h1:b=h.n<;>by_cases h2:b'=h.n
   ·omega
   ·have:=hw.below (old _ _ hb' h2)
    simp[h1,h2]at he
    omega
   ·have:=hw.below (old _ _ hb h1)
    simp[h1,h2]at he
    omega
   ·simp[h1,h2]at he
    exact hw.inj b b' x x' (old _ _ hb h1) (old _ _ hb' h2) he
  ·by_cases h1:b=h.n
   ·simp only[h1,if_true]
    rcases hi:m.imm w.heap.size o with _ | v
    ·rfl
    ·have:=hw.imm_lt hi
     omega
   ·simp only[h1,if_false]
    exact hw.sep b x (old _ _ hb h1) o
  ·by_cases h1:b=h.n
   ·have:=hw.tip_lt hk
    simp[h1]
    omega
   ·simp only[h1,if_false]
    exact hw.tblk k hk b x (old _ _ hb h1)
  ·obtain⟨a1,a2,a3,a4,a5⟩:=hw1.jk g x hx
   refine⟨a1,a2,fun b y hb=> ?_,a4,a5⟩
   by_cases h1:b=h.n
   ·have:=hw.jk_lt hx
    simp only[h1,if_true]
    omega
   ·simp only[h1,if_false]
    exact a3 b y (old _ _ hb h1)
theorem WR.turn (hw:WR P m h w) {b:Nat} {es es':List (List AV)} (hb:h.cell b=some es) (ho:eN (fun k=>k=m.blk b) w w') (cs':Array Value) (hc:Blk w' (m.blk b) (m.bt b) cs') (hs:cs'.size=m.bsz b)
  (hl:∀ r∈es',r.length=P.cellsOf (m.bt b)) (hle:es'.length*P.cellsOf (m.bt b)≤cs'.size)
  (hv:∀ i (hi:i<es'.length) j (hj:j<es'[i].length),∃ v,cs'[i*P.cellsOf (m.bt b)+j]? =some v∧VR P m h es'[i][j] v):
  Ext m h m (h.set b (some es'))∧WR P m (h.set b (some es')) w':=by
 have hx:Ext m h m (h.set b (some es')):=⟨rfl,Nat.le_refl _,Nat.le_refl _,fun _ _=>⟨rfl,rfl,rfl⟩,fun _ _ _ h=>h,fun _ _=>⟨rfl,Nat.le_refl _,fun _=>⟨rfl,rfl⟩⟩,fun _ _ h=>h⟩
 refine⟨hx,?_⟩
 have some_:∀ b' x,(h.set b (some es')).cell b'=some x→∃ y,h.cell b'=some y:=by
  intro b' x hb'
  by_cases e:b'=b
  ·subst e;exact⟨_,hb⟩
  ·exact⟨x,by simpa[AH.set,e]using hb'⟩
 refine⟨Nat.le_trans hw.size ho.size,fun b' x hb'=> ?_,fun b' x hb'=> ?_,fun b1 b2 x1 x2 h1 h2 he=> ?_,fun g o v hi=> ?_,fun b' x hb' o=> ?_,fun k hk=> ?_,hw.tfree,fun k hk b' x hb'=> ?_,hw.tinj,hw.good.keep hw.size fun g hg hlt=>ho.block g hg (fun e=>by have:=(hw.lt b es hb).2;omega),fun g x hj=> ?_⟩
 ·obtain⟨y,hy⟩:=some_ _ _ hb'
  exact hw.lt _ _ hy
 ·by_cases e:b'=b
  ·subst e
   have:x=es':=by simpa[AH.set,eq_comm]using hb'
   subst this
   refine⟨cs',hc,hs,hl,hle,fun i hi j hj=> ?_⟩
   obtain⟨v,h1,h2⟩:=hv i hi j hj
   exact⟨v,h1,h2.ext hx⟩
  ·have hb2:h.cell b'=some x:=by simpa[AH.set,e]using hb'
   obtain⟨c2,h1,h2,h3,h4,h5⟩:=hw.live b' x hb2
   refine⟨c2,h1.only ho (fun e'=>e (hw.inj _ _ _ _ hb2 hb e')),h2,h3,h4,fun i hi j hj=> ?_⟩
   obtain⟨v,h6,h7⟩:=h5 i hi j hj
   exact⟨v,h6,h7.ext hx⟩
 ·obtain⟨y1,hy1⟩:=some_ _ _ h1
  obtain⟨y2,hy2⟩:=some_ _ _ h2
  exact hw.inj _ _ _ _ hy1 hy2 he
 ·have hne:g≠m.blk b:=fun e=>by
   subst e
   have:=hw.sep b es hb o
   rw[this]at hi
   cases hi
  rw[World.cell?_of_block (w:=w) (ho.block _ (hw.imm_lt hi) hne)]
  exact hw.imm g o v hi
 ·obtain⟨y,hy⟩:=some_ _ _ hb'
  exact hw.sep _ _ hy o
 ·obtain⟨xs,hxs⟩:=hw.tip k hk
  exact⟨xs,FV hxs ho (fun g hg e=>by
   simp at hg
   exact hw.tblk k hk b es hb (by rw[hg];exact e.symm))⟩
 ·obtain⟨y,hy⟩:=some_ _ _ hb'
  exact hw.tblk k hk _ _ hy
 ·obtain⟨a1,a2,a3,a4,a5⟩:=hw.jk g x hj
  refine⟨a1,(ho.block g (hw.jk_lt hj) fun e=>a3 b es hb e.symm).trans a2,fun b' y hb'=> ?_,a4,a5⟩
  obtain⟨z,hz⟩:=some_ _ _ hb'
  exact a3 _ _ hz
end
open Go Go.RowKit
structure pO (P:Program):Prop where
 zero:∀ t i v,t<P.types.size→P.info? t=some i→i.zero=some v→v.cells.size=i.size
 small:∀ t i,t<P.types.size→P.info? t=some i→i.bytes≤100000
 pos:∀ t e,t<P.types.size→P.underlying t=some (.slice e)→0<P.cellsOf e
def TR (P:Program) (m:Mm) (h:AH) (t:List AV) (a:Array Value):Prop:=a.size=t.length∧∀ i (hi:i<t.length),VR P m h t[i] (a.getD i undef)
def OpR (P:Program) (m:Mm) (h:AH) (a:Act) (w:World) (o:Oper) (v:AV) (h':AH):Prop:=
 ∃ m' w' u,((execOp a.eval o).run P w= .ok (.value u) w'∨((execOp a.eval o).run P w= .ok .skip w'∧u=undef))∧Ext m h m' h'∧WR P m' h' w'∧VR P m' h' v u∧Below m.base w w'
section
variable {P:Program} {m m':Mm} {h h':AH} {w w':World} {t:List AV} {a:Act} {o:Oper}
theorem TR.ext (x:Ext m h m' h') {tm:Array Value} (r:TR P m h t tm):TR P m' h' t tm:=⟨r.1,fun i hi=>(r.2 i hi).ext x⟩
theorem TR.put (r:TR P m h t a.tmps) {v:AV} {u:Value} (hv:VR P m h v u) (d:Option Tmp):TR P m h (cz t d v) (a.put d u).tmps:=by
 cases d with
 | none=>exact r
 | some d=>
   refine⟨by simp[cz,Act.put,r.1],fun i hi=> ?_⟩
   have hi':i<t.length:=by simpa[cz]using hi
   have e1:(cz t (some d) v)[i]=if d=i then v else t[i]:=by simp[cz,List.getElem_set]
   have e2:(a.put (some d) u).tmps.getD i undef=if d=i then u else a.tmps.getD i undef:=by
    have hs:i<a.tmps.size:=by rw[r.1];exact hi'
    simp[Act.put,Array.getD,hs,Array.getElem_setIfInBounds]
   rw[e1,e2]
   by_cases e:d=i
   ·rw[if_pos e,if_pos e]
    exact hv
   ·rw[if_neg e,if_neg e]
    exact r.2 i hi'
theorem TR.get (r:TR P m h t a.tmps) (i:Nat):VR P m h (t.getD i .junk) (a.tmps.getD i undef):=by
 by_cases hi:i<t.length
 ·have:=r.2 i hi
  simpa[List.getD,hi]using this
 ·rw[List.getD,List.getElem?_eq_none (by omega)]
  exact .junk _
theorem jo (v:Value):VR P m h (lg v) v:=by
 unfold lg
 split
 ·exact .bool _
 ·exact .int _ _
 ·rename_i s
  have:=VR.str (P:=P) (m:=m) (h:=h) s.data.toList
  simpa using this
 ·exact .nilp
 ·exact .nils
 ·exact .nilf
 ·exact .nili
 ·exact .junk _
theorem Dq (v:Value):VR P m h (qr v) v:=by
 unfold qr
 split
 ·rename_i cs
  have:=VR.agg (P:=P) (m:=m) (h:=h) (cs.toList.map lg) cs.toList (by simp) (fun j hj hj'=>by simpa using jo _)
  simpa using this
 ·exact jo v
theorem aM (r:TR P m h t a.tmps) (x:Operand):VR P m h (evA t x) (a.eval x):=by
 cases x with
 | tmp i=>exact r.get i
 | const v=>exact Dq v
 | global g=>exact .junk _
 | func f=>exact .fn f [] [] [] [] rfl rfl (fun j hj=>by simp at hj) (fun j hj=>by simp at hj)
theorem VR.one {v:AV} {u:Value} (r:VR P m h v u) (h1:v.one=true):u.oneCell'=true:=by
 cases r<;>simp_all [AV.one,Value.oneCell']
theorem VR.cells {v:AV} {u:Value} (r:VR P m h v u) (h1:v.cells.all AV.one=true):VRs P m h v.cells u.cells.toList∧∀ c∈u.cells.toList,c.oneCell'=true:=by
 have key:v.one=true→u.cells= #[u]→v.cells=[v]→VRs P m h v.cells u.cells.toList∧∀ c∈u.cells.toList,c.oneCell'=true:=by
  intro hv hu hc
  rw[hu,hc]
  refine⟨VRs.cons r VRs.nil,fun c hc=> ?_⟩
  simp at hc
  subst hc
  exact r.one hv
 cases r with
 | junk v=>simp[AV.cells,AV.one]at h1
 | tup l l' h2 h3=>simp[AV.cells,AV.one]at h1
 | agg l l' h2 h3=>
   refine⟨⟨by simpa[AV.cells,Value.cells]using h2,fun j hj hj'=>h3 j hj (by simpa[Value.cells]using hj')⟩,fun c hc=> ?_⟩
   simp[Value.cells]at hc
   obtain⟨j,hj,rfl⟩:=List.getElem_of_mem hc
   have hjl:j<l.length:=by omega
   simp only[AV.cells,List.all_eq_true]at h1
   exact(h3 j hjl hj).one (h1 _ (List.getElem_mem hjl))
 | _=>exact key rfl rfl rfl
theorem OpR.pure (hw:WR P m h w) {v:AV} {u:Value} (hr:(execOp a.eval o).run P w= .ok (.value u) w) (hv:VR P m h v u):OpR P m h a w o v h:=
 ⟨m,w,u,.inl hr,Ext.refl _ _,hw,hv,Below.refl _ _⟩
theorem eZ (hT:pO P) {e:TypeId} {z:List AV} (hz:eH P e=some z):∃ i v,P.info? e=some i∧i.zero=some v∧z.length=P.cellsOf e∧v.cells.size=P.cellsOf e∧VRs P m h z v.cells.toList∧(zeroValue e).run P w= .ok v w:=by
 unfold eH at hz
 split at hz
 case isFalse=>cases hz
 rename_i hlt
 rcases hi:P.info? e with _ | i
 ·simp[hi]at hz
 ·rcases hv:i.zero with _ | v
  ·simp[hi,hv]at hz
  ·simp only[hi,hv,Option.bind_some,Option.map_some,Option.some.injEq]at hz
   have hs:=hT.zero e i v hlt hi hv
   have hc:P.cellsOf e=i.size:=by simp[Program.cellsOf,hi]
   have hr:VRs P m h (qr v).cells v.cells.toList:=by
    unfold qr
    split
    ·rename_i cs
     exact⟨by simp[AV.cells,Value.cells],fun j hj hj'=>by simpa[AV.cells,Value.cells]using jo _⟩
    ·rename_i hne
     have hs1:=jo (P:=P) (m:=m) (h:=h) v
     have e1:(lg v).cells=[lg v]:=by
      unfold lg
      split<;>rfl
     have e2:v.cells= #[v]:=by
      unfold Value.cells
      split
      ·rename_i cs
       exact absurd rfl (hne cs)
      ·rfl
     rw[e1,e2]
     exact VRs.cons hs1 VRs.nil
   rw[hz]at hr
   refine⟨i,v,rfl,hv,?_,by rw[hs,hc],hr,by simp[zeroValue,typeInfo,hi,hv]⟩
   have:=hr.1
   rw[Array.length_toList,hs]at this
   rw[hc]
   exact this.symm
theorem En (hw:WR P m h w) (e:TypeId) {z:List AV} {u:Array Value} (hz:VRs P m h z u.toList) (hs:z.length=P.cellsOf e):
  ∃ m',Ext m h m' (h.push [z])∧WR P m' (h.push [z]) (w.alloc (.cells u e))∧VR P m' (h.push [z]) (.ptr h.n 0 0) (.pointer (some ⟨w.heap.size,0,none⟩)):=by
 have hu:u.size=z.length:=by simpa using hz.1
 obtain⟨m',h1,h2,h3,h4,h5⟩:=hw.push (w.alloc (.cells u e)) e [z] u ((eN.refl _ w).alloc _) (Blk.new w _ _) (by simp;omega) (by simp[hs]) (by
  intro i hi j hj
  have hi0:i=0:=by simpa using hi
  subst hi0
  have hj':j<z.length:=by simpa using hj
  refine⟨u[j]'(by omega),by simp,?_⟩
  have:=hz.2 j hj' (by simp;omega)
  simpa using this)
 refine⟨m',h1,h2,?_⟩
 have:=VR.ptr (P:=P) (m:=m') (h:=h.push [z]) h.n 0 0 (by simp[AH.push])
 rw[h3]at this
 simpa using this
theorem QJ (hT:pO P) (hw:WR P m h w) (e:TypeId) (ho:o.op= .alloc e) {z:List AV} (hz:eH P e=some z):OpR P m h a w o (.ptr h.n 0 0) (h.push [z]):=by
 obtain⟨i,v,hi,hv,hl,hs,hr,hrun⟩:=eZ (m:=m) (h:=h) (w:=w) hT hz
 obtain⟨m',h1,h2,h3⟩:=En hw e hr hl
 refine⟨m',_,_,.inl ?_,h1,h2,h3,(Below.refl _ _).alloc hw.size _⟩
 simp[execOp,ho,Instr.alloc,hrun,newVar,newRow]
theorem Mr (hT:pO P) (hw:WR P m h w) (e:TypeId) (ho:o.op= .alloc e) {z:List AV} (hz:eH P e=some z):OpR P m h a w o (.tptr e h.n) (h.push [z]):=by
 obtain⟨i,v,hi,hv,hl,hs,hr,hrun⟩:=eZ (m:=m) (h:=h) (w:=w) hT hz
 have hu:v.cells.size=z.length:=by simpa using hr.1
 obtain⟨m',h1,h2,h3,h4,h5⟩:=hw.push (w.alloc (.cells v.cells e)) e [z] v.cells ((eN.refl _ w).alloc _) (Blk.new w _ _) (by simp;omega) (by simp[hl]) (by
  intro i hi j hj
  have hi0:i=0:=by simpa using hi
  subst hi0
  have hj':j<z.length:=by simpa using hj
  refine⟨v.cells[j]'(by omega),by simp,?_⟩
  have:=hr.2 j hj' (by simp;omega)
  simpa using this)
 have hp:=VR.tptr (P:=P) (m:=m') (h:=h.push [z]) e h.n (by simp[AH.push]) h4
 rw[h3]at hp
 refine⟨m',_,_,.inl ?_,h1,h2,hp,(Below.refl _ _).alloc hw.size _⟩
 simp[execOp,ho,Instr.alloc,hrun,newVar,newRow]
theorem XH (hw:WR P m h w) (ht:TR P m h t a.tmps) (e:TypeId) (x:Operand) (ho:o.op= .box e x) (h1:(evA t x).cells.all AV.one=true) (h2:(evA t x).cells.length=szA P e):
  OpR P m h a w o (.ptr h.n 0 0) (h.push [(evA t x).cells]):=by
 obtain⟨h3,h4⟩:=(aM ht x).cells h1
 obtain⟨m',h5,h6,h7⟩:=En hw e h3 h2
 refine⟨m',_,_,.inl ?_,h5,h6,h7,(Below.refl _ _).alloc hw.size _⟩
 simp[execOp,ho,Instr.box,newVar,newRow]
theorem Vg (hw:WR P m h w) (ht:TR P m h t a.tmps) (e:TypeId) (x:Operand) (ho:o.op= .box e x) (h1:(evA t x).cells.all AV.one=true) (h2:(evA t x).cells.length=szA P e):
  OpR P m h a w o (.tptr e h.n) (h.push [(evA t x).cells]):=by
 obtain⟨h3,h4⟩:=(aM ht x).cells h1
 have hu:(a.eval x).cells.size=(evA t x).cells.length:=by simpa using h3.1
 have h2:(evA t x).cells.length=P.cellsOf e:=h2
 obtain⟨m',k1,k2,k3,k4,k5⟩:=hw.push (w.alloc (.cells (a.eval x).cells e)) e [(evA t x).cells] (a.eval x).cells ((eN.refl _ w).alloc _) (Blk.new w _ _) (by simp;omega) (by simp[h2]) (by
  intro i hi j hj
  have hi0:i=0:=by simpa using hi
  subst hi0
  have hj':j<(evA t x).cells.length:=by simpa using hj
  refine⟨(a.eval x).cells[j]'(by omega),by simp,?_⟩
  have:=h3.2 j hj' (by simp;omega)
  simpa using this)
 have hp:=VR.tptr (P:=P) (m:=m') (h:=h.push [(evA t x).cells]) e h.n (by simp[AH.push]) k4
 rw[k3]at hp
 refine⟨m',_,_,.inl ?_,k1,k2,hp,(Below.refl _ _).alloc hw.size _⟩
 simp[execOp,ho,Instr.box,newVar,newRow]
theorem wB (ty:TypeId) {d:TypeDesc} (hd:P.underlying ty=some d):(isAgg ty).run P w= .ok (iK P ty) w:=by
 unfold isAgg iK
 simp only[Sem.run_bind,run_underlying hd,Result.andThen_ok,hd]
 cases d<;>simp
theorem K3 (hw:WR P m h w) {b i:Nat} {e:List AV} (hr:h.row b i=some e):∃ F:Nat→Value,∀ j (hj:j<e.length),w.cell? ⟨m.blk b,i*P.cellsOf (m.bt b)+j,none⟩=some (F j)∧VR P m h e[j] (F j):=by
 unfold AH.row at hr
 rcases hc:h.cell b with _ | es
 ·simp[hc]at hr
 ·simp only[hc,Option.bind_some]at hr
  obtain⟨hi,rfl⟩:=List.getElem?_eq_some_iff.1 hr
  obtain⟨cs,h1,h2,h3,h4,h5⟩:=hw.live b es hc
  refine⟨fun j=>(cs[i*P.cellsOf (m.bt b)+j]?).getD undef,fun j hj=> ?_⟩
  obtain⟨v,h6,h7⟩:=h5 i hi j hj
  exact⟨by rw[h1.cell];simp[h6],by simpa[h6]using h7⟩
theorem sg (ty:TypeId) {d:TypeDesc} (hd:P.underlying ty=some d) (hi:P.info? ty≠none) (g o:Nat) (off:Nat) (e:List AV) (F:Nat→Value)
  (hF:∀ j (hj:j<e.length),w.cell? ⟨g,o+j,none⟩=some (F j)∧VR P m h e[j] (F j)) {v:AV} (hv:ldA (iK P ty) (szA P ty) e off=some v):
  ∃ u,(loadVar ty ⟨g,o+off,none⟩).run P w= .ok u w∧VR P m h v u:=by
 unfold ldA at hv
 unfold loadVar
 simp only[Sem.run_bind,wB ty hd,Result.andThen_ok]
 cases hag:iK P ty
 ·simp only[hag,Bool.false_eq_true,if_false]at hv ⊢
  obtain⟨hj,rfl⟩:=List.getElem?_eq_some_iff.1 hv
  obtain⟨h1,h2⟩:=hF off hj
  exact⟨F off,by simp[h1],h2⟩
 ·simp only[hag,if_true]at hv ⊢
  split at hv
  ·rename_i hle
   injection hv with hv
   subst hv
   obtain⟨i,hi⟩:=Option.ne_none_iff_exists'.1 hi
   have hsz:i.size=szA P ty:=by simp[szA,Program.cellsOf,hi]
   have hl:=run_loadCells (P:=P) w ⟨g,o+off,none⟩ (szA P ty) (fun j=>F (off+j)) (fun j hj=>by
    rw[Addr.add_lit]
    have:=(hF (off+j) (by omega)).1
    rwa [Nat.add_assoc])
   refine⟨.agg ((List.range (szA P ty)).map fun j=>F (off+j)).toArray,?_,?_⟩
   ·simp[sizeOf,typeInfo,hi,hsz,hl]
   ·refine .agg _ _ (by simp;omega) (fun j hj hj'=> ?_)
    simp only[List.getElem_map,List.getElem_range]
    have hj2:j<szA P ty:=by simpa using hj'
    have:=(hF (off+j) (by omega)).2
    simpa[List.getElem_take,List.getElem_drop]using this
  ·cases hv
theorem TU (hw:WR P m h w) (ht:TR P m h t a.tmps) (ty:TypeId) (x:Operand) (ho:o.op= .load ty x) {d:TypeDesc} (hd:P.underlying ty=some d) (hi:P.info? ty≠none) {v:AV}
  (hv:aR (iK P ty) (szA P ty) h (evA t x)=some v):OpR P m h a w o v h:=by
 have hx:=aM ht x
 have key:∃ u,(Instr.loadAt ty (a.eval x)).run P w= .ok u w∧VR P m h v u:=by
  revert hx hv
  generalize a.eval x=ax
  generalize evA t x=ex
  intro hv hx
  obtain⟨ex',hx',hne,hl,_⟩:=hx.untag
  rw[←hl]at hv
  cases hx' with
  | tptr t b _ _=>exact absurd rfl (hne t b)
  | ptr b i off hb=>
    simp only[aR]at hv
    rcases hr:h.row b i with _ | e
    ·simp[hr]at hv
    ·simp only[hr,Option.bind_some]at hv
     obtain⟨F,hF⟩:=K3 hw hr
     obtain⟨u,h1,h2⟩:=sg (w:=w) ty hd hi (m.blk b) (i*P.cellsOf (m.bt b)) off e F hF hv
     exact⟨u,by simp[Instr.loadAt,Instr.sureAddr,h1],h2⟩
  | ip e off g o' F hi' hv'=>
    simp only[aR]at hv
    obtain⟨u,h1,h2⟩:=sg (w:=w) (h:=h) (m:=m) ty hd hi g o' off e F (fun j hj=>⟨hw.imm _ _ _ (hi' j hj),hv' j hj⟩) hv
    exact⟨u,by simp[Instr.loadAt,Instr.sureAddr,h1],h2⟩
  | _=>simp[aR]at hv
 obtain⟨u,h1,h2⟩:=key
 exact OpR.pure hw (by simp[execOp,ho,h1]) h2
end
open Go Go.RowKit
theorem Bk {α:Type} (l cs:List α) (o:Nat) (h:o+cs.length≤l.length) (j:Nat):
  (l.take o++cs++l.drop (o+cs.length))[j]? =if o≤j∧j<o+cs.length then cs[j - o]? else l[j]? :=by
 by_cases h1:j<o
 ·rw[if_neg (by omega),List.append_assoc,List.getElem?_append_left (by simp;omega)]
  simp[h1]
 ·by_cases h2:j<o+cs.length
  ·rw[if_pos (by omega),List.append_assoc,List.getElem?_append_right (by simp;omega),List.getElem?_append_left (by simp;omega)]
   congr 1
   simp
   omega
  ·rw[if_neg (by omega),List.getElem?_append_right (by simp;omega)]
   rw[List.getElem?_drop]
   congr 1
   simp
   omega
theorem cI {i n s:Nat} (h:i<n):i*s+s≤n*s:=by
 have:(i+1)*s≤n*s:=Nat.mul_le_mul_right s h
 rw[Nat.add_mul]at this
 omega
section
variable {P:Program} {m m':Mm} {h h':AH} {w w':World} {t:List AV} {a:Act} {o:Oper}
theorem Pg (hw:WR P m h w) (ht:TR P m h t a.tmps) (ty:TypeId) (x y:Operand) (ho:o.op= .store ty x y) (hi:P.info? ty≠none)
  (hv:aZ (szA P ty) h (evA t x) (evA t y)=some h'):OpR P m h a w o .junk h':=by
 have hx:=aM ht x
 have hy:=aM ht y
 obtain⟨i0,hi⟩:=Option.ne_none_iff_exists'.1 hi
 have hsz:i0.size=szA P ty:=by simp[szA,Program.cellsOf,hi]
 have key:∃ w',(Instr.storeAt ty (a.eval x) (a.eval y)).run P w= .ok () w'∧Ext m h m h'∧WR P m h' w'∧Below m.base w w':=by
  revert hx hv
  generalize a.eval x=ax
  generalize evA t x=ex
  intro hv hx
  obtain⟨ex',hx',hne,_,hl⟩:=hx.untag
  rw[←hl]at hv
  cases hx' with
  | tptr t b _ _=>exact absurd rfl (hne t b)
  | ptr b i off hb=>
    simp only[aZ]at hv
    rcases hc:h.cell b with _ | es
    ·simp[hc]at hv
    ·rcases hr:es[i]? with _ | e
     ·simp[hc,hr]at hv
     ·simp only[hc,hr,Option.bind_some]at hv
      split at hv
      ·rename_i hcond
       obtain⟨h1,h2,h3⟩:=hcond
       injection hv with hv
       subst hv
       obtain⟨hc1,hc2⟩:=hy.cells h1
       obtain⟨cs,hb1,hb2,hb3,hb4,hb5⟩:=hw.live b es hc
       obtain⟨hie,hre⟩:=List.getElem?_eq_some_iff.1 hr
       have hes:e.length=P.cellsOf (m.bt b):=by rw[←hre];exact hb3 _ (List.getElem_mem hie)
       generalize hS:P.cellsOf (m.bt b)=S at*
       have hul:(a.eval y).cells.toList.length=szA P ty:=by rw[hc1.1,h2]
       have hus:(a.eval y).cells.size=szA P ty:=by simpa using hul
       have hiS:=cI (s:=S) hie
       have hrun:=run_storeCells_at (P:=P) (m.blk b) (i*S+off) (m.bt b) (a.eval y).cells.toList 0 cs w hb1 (by rw[hul];omega) hc2
       have hO:eN (fun k=>k=m.blk b) w (w.setRow (m.blk b) (cs.toList.take (i*S+off+0)++(a.eval y).cells.toList++cs.toList.drop (i*S+off+0+(a.eval y).cells.toList.length)).toArray):=
        ⟨rfl,rfl,rfl,by simp[World.setRow],fun k _ hk=>setRow_other w _ k _ hk⟩
       have hlen:((cs.toList.take (i*S+off+0)++(a.eval y).cells.toList++cs.toList.drop (i*S+off+0+(a.eval y).cells.toList.length)).toArray).size=cs.size:=by
        simp only[List.size_toArray,List.length_append,List.length_take,List.length_drop,Array.length_toList,hus]
        omega
       have hBk:=setRow_heap w _ cs (cs.toList.take (i*S+off+0)++(a.eval y).cells.toList++cs.toList.drop (i*S+off+0+(a.eval y).cells.toList.length)).toArray _ _ hb1
       have hBl:∀ k,k<m.base→(w.setRow (m.blk b) (cs.toList.take (i*S+off+0)++(a.eval y).cells.toList++cs.toList.drop (i*S+off+0+(a.eval y).cells.toList.length)).toArray).heap[k]? =w.heap[k]? :=fun k hk=>setRow_other w _ k _ (fun e=>by
        have:=(hw.lt b es hc).2
        omega)
       generalize w.setRow (m.blk b) (cs.toList.take (i*S+off+0)++(a.eval y).cells.toList++cs.toList.drop (i*S+off+0+(a.eval y).cells.toList.length)).toArray=w1 at*
       refine⟨w1,by simp[Instr.storeAt,Instr.sureAddr,storeVar,sizeOf,typeInfo,hi,hsz,hus,hrun],?_⟩
       obtain⟨hX,hW⟩:=hw.turn hc (es':=es.set i (stA e off (evA t y).cells)) hO _ hBk (by rw[hlen,hb2]) (by
        intro r hr'
        rw[hS]
        rcases List.mem_or_eq_of_mem_set hr' with hq | hq
        ·exact hb3 r hq
        ·rw[hq,stA]
         simp only[List.length_append,List.length_take,List.length_drop]
         omega) (by rw[hlen,hS,List.length_set];exact hb4) (by
        intro i' hi' j hj
        rw[hS]
        have hi2:i'<es.length:=by simpa using hi'
        simp only[List.getElem?_toArray]
        rw[Bk _ _ _ (by rw[hul];simp;omega)]
        by_cases e1:i'=i
        ·subst e1
         have hrow:(es.set i' (stA e off (evA t y).cells))[i']=stA e off (evA t y).cells:=by simp
         have hj':j<(stA e off (evA t y).cells).length:=by rw[hrow]at hj;exact hj
         have hg:(stA e off (evA t y).cells)[j]? =some (stA e off (evA t y).cells)[j]:=List.getElem?_eq_getElem hj'
         have hg2:(e.take off++(evA t y).cells++e.drop (off+(evA t y).cells.length))[j]? =some (stA e off (evA t y).cells)[j]:=hg
         rw[Bk _ _ _ (by omega)]at hg2
         have goal':∀ v,VR P m h (stA e off (evA t y).cells)[j] v→VR P m h (es.set i' (stA e off (evA t y).cells))[i'][j] v:=by
          intro v hv
          simpa only[hrow]using hv
         by_cases e2:off≤j∧j<off+(evA t y).cells.length
         ·rw[if_pos e2]at hg2
          rw[if_pos (by rw[hul];omega)]
          obtain⟨u,hu1,hu2⟩:=hc1.get? hg2
          refine⟨u,?_,goal' u hu2⟩
          rw[←hu1]
          congr 1
          omega
         ·rw[if_neg e2]at hg2
          rw[if_neg (by rw[hul];omega)]
          obtain⟨hje,hge⟩:=List.getElem?_eq_some_iff.1 hg2
          obtain⟨v,hv1,hv2⟩:=hb5 i' hi2 j (by rw[hre];exact hje)
          refine⟨v,by simpa using hv1,goal' v ?_⟩
          rw[←hge]
          simpa only[hre]using hv2
        ·have hrow:(es.set i (stA e off (evA t y).cells))[i']=es[i']:=by simp[Ne.symm e1]
         have hj':j<es[i'].length:=by rw[hrow]at hj;exact hj
         have hjS:j<S:=by rw[hb3 _ (List.getElem_mem hi2)]at hj';exact hj'
         rw[if_neg (by
          rw[hul]
          rcases Nat.lt_or_gt_of_ne e1 with hq | hq
          ·have:=cI (s:=S) hq
           omega
          ·have:=cI (s:=S) hq
           omega)]
         obtain⟨v,hv1,hv2⟩:=hb5 i' hi2 j hj'
         exact⟨v,by simpa using hv1,by simpa only[hrow]using hv2⟩)
       exact⟨hX,hW,⟨hO.os,hO.tape,hO.output,hO.size,hBl⟩⟩
      ·cases hv
  | _=>simp[aZ]at hv
 obtain⟨w',h1,h2,h3,h4⟩:=key
 exact⟨m,w',undef,.inr ⟨by simp[execOp,ho,h1],rfl⟩,h2,h3,.junk _,h4⟩
end
open Go Go.RowKit
section
variable {P:Program} {m m':Mm} {h h':AH} {w w':World} {t:List AV} {a:Act} {o:Oper}
theorem Lm (hw:WR P m h w) (ht:TR P m h t a.tmps) (x:Operand) (ho:o.op= .move x∨o.op= .assign x):OpR P m h a w o (evA t x) h:=by
 refine OpR.pure hw (u:=a.eval x) ?_ (aM ht x)
 rcases ho with ho | ho<;>simp[execOp,ho]
theorem Uy (hw:WR P m h w) (ht:TR P m h t a.tmps) (c x y:Operand) (ho:o.op= .pick c x y) {b:Bool} (hb:evA t c= .bool b):OpR P m h a w o (if b then evA t x else evA t y) h:=by
 have hc:=aM ht c
 rw[hb]at hc
 obtain⟨u,hu⟩:∃ u,a.eval c=u:=⟨_,rfl⟩
 rw[hu]at hc
 cases hc
 cases b
 ·exact OpR.pure hw (u:=a.eval y) (by simp[execOp,ho,hu,asBool]) (by simpa using aM ht y)
 ·exact OpR.pure hw (u:=a.eval x) (by simp[execOp,ho,hu,asBool]) (by simpa using aM ht x)
theorem FH (hw:WR P m h w) (ht:TR P m h t a.tmps) (x:Operand) (ho:o.op= .nilCheck x) {v:AV} (hv:evA t x=v)
  (hk:(match v with | .ptr .. | .tptr .. | .ip .. | .fn .. | .iface .. =>true | _=>false)=true):OpR P m h a w o v h:=by
 have hc:=aM ht x
 rw[hv]at hc
 obtain⟨u,hu⟩:∃ u,a.eval x=u:=⟨_,rfl⟩
 rw[hu]at hc
 refine OpR.pure hw (u:=u) ?_ hc
 cases hc<;>simp at hk<;>simp[execOp,ho,hu]
theorem VC (hw:WR P m h w) (ht:TR P m h t a.tmps) (op:UnOp) (ty:TypeId) (x:Operand) (ho:o.op= .unOp op ty x) {v:AV}
  (hv:unA op (evA t x)=some v):OpR P m h a w o v h:=by
 have hc:=aM ht x
 revert hv hc
 obtain⟨u,hu⟩:∃ u,a.eval x=u:=⟨_,rfl⟩
 rw[hu]
 generalize evA t x=ex
 intro hv hc
 cases op<;>cases hc<;>simp[unA]at hv
 ·subst hv
  exact OpR.pure hw (u:= .int _ _) (by simp[execOp,ho,hu,Op.unary,Op.intArith]) (.int _ _)
 ·subst hv
  exact OpR.pure hw (u:= .bool _) (by simp[execOp,ho,hu,Op.unary]) (.bool _)
theorem If (hw:WR P m h w) (ht:TR P m h t a.tmps) (src dst:TypeId) (x:Operand) (ho:o.op= .convert src dst x) {v:AV} (hs:(P.underlying src).isNone=false)
  (hv:cvA (cB P dst) (evA t x)=some v):OpR P m h a w o v h:=by
 have hc:=aM ht x
 revert hv hc
 obtain⟨u,hu⟩:∃ u,a.eval x=u:=⟨_,rfl⟩
 rw[hu]
 generalize evA t x=ex
 intro hv hc
 obtain⟨ds,hds⟩:∃ ds,P.underlying src=some ds:=Option.isSome_iff_exists.1 (by simpa[←Option.not_isSome]using hs)
 unfold cB at hv
 rcases hd:P.underlying dst with _ | dd
 ·simp[hd,cvA]at hv
 ·rw[hd]at hv
  cases dd<;>cases hc<;>simp[cvA]at hv
  ·subst hv
   exact OpR.pure hw (u:= .int _ _) (by
    simp only[execOp,ho,hu,convert,Sem.run_bind,run_underlying hds,run_underlying hd,Result.andThen_ok]
    cases ds<;>simp[Conv.intToInt]<;>rfl) (.int _ _)
  ·subst hv
   exact OpR.pure hw (u:= .string _) (by
    simp only[execOp,ho,hu,convert,Sem.run_bind,run_underlying hds,run_underlying hd,Result.andThen_ok]
    cases ds<;>simp<;>rfl) (.str _)
theorem mg (hw:WR P m h w) (ht:TR P m h t a.tmps) (ty:TypeId) (x:Operand) (ho:o.op= .makeInterface ty x) (hp:nE P ty=true):OpR P m h a w o (.iface ty (evA t x)) h:=by
 unfold nE at hp
 rcases hd:P.underlying ty with _ | d
 ·simp[hd]at hp
 ·refine OpR.pure hw (u:= .iface ty (a.eval x)) ?_ (.iface _ _ _ (aM ht x))
  rw[hd]at hp
  simp only[execOp,ho,Instr.makeInterface,Sem.run_bind,run_underlying hd,Result.andThen_ok]
  cases d<;>simp at hp ⊢
theorem DY (hw:WR P m h w) (ht:TR P m h t a.tmps) (g:FuncId) (first captured:Array Operand) (ho:o.op= .makeFunc (.func g) first captured):
  OpR P m h a w o (.fn g (first.toList.map (evA t)) (captured.toList.map (evA t))) h:=by
 have h1:=VRs.map (P:=P) (m:=m) (h:=h) (f:=evA t) (g:=a.eval) (l:=first.toList) (fun x _=>aM ht x)
 have h2:=VRs.map (P:=P) (m:=m) (h:=h) (f:=evA t) (g:=a.eval) (l:=captured.toList) (fun x _=>aM ht x)
 refine OpR.pure hw (u:= .func (.func g) (first.toList.map a.eval).toArray (captured.toList.map a.eval).toArray) ?_ (.fn _ _ _ _ _ h1.1 h2.1 h1.2 h2.2)
 simp only[execOp,ho,Instr.makeFunc,Sem.run_bind,Sem.run_pure,Result.andThen_ok]
 have e:∀ xs:Array Operand,(xs.toList.map a.eval).toArray=xs.map a.eval:=fun xs=>by apply Array.ext';simp
 rw[e,e]
theorem IX (hw:WR P m h w) (ht:TR P m h t a.tmps) (x:Operand) (i:Nat) (ho:o.op= .extract x i) {vs:List AV} {v:AV} (hv:evA t x= .tup vs) (hi:vs[i]? =some v):OpR P m h a w o v h:=by
 have hc:=aM ht x
 rw[hv]at hc
 obtain⟨u,hu⟩:∃ u,a.eval x=u:=⟨_,rfl⟩
 rw[hu]at hc
 cases hc with
 | tup _ l' h1 h3=>
   obtain⟨y,hy1,hy2⟩:=VRs.get? (l:=vs) (l':=l') ⟨h1,h3⟩ hi
   exact OpR.pure hw (u:=y) (by simp[execOp,ho,hu,Instr.extract,hy1]) hy2
theorem zq (hw:WR P m h w) (ht:TR P m h t a.tmps) (x:Operand) (xt aS:TypeId) (ok:Bool) (ho:o.op= .typeAssert x xt aS ok) {v:AV} (hv:evA t x= .iface aS v) (hp:nE P aS=true):
  OpR P m h a w o (if ok then .tup [v,.bool true]else v) h:=by
 have hc:=aM ht x
 rw[hv]at hc
 obtain⟨u,hu⟩:∃ u,a.eval x=u:=⟨_,rfl⟩
 rw[hu]at hc
 unfold nE at hp
 rcases hd:P.underlying aS with _ | d
 ·simp[hd]at hp
 ·rw[hd]at hp
  cases hc with
  | iface _ _ v' h1=>
    cases ok
    ·refine OpR.pure hw (u:=v') ?_ h1
     simp only[execOp,ho,hu,Instr.typeAssert,Sem.run_bind,run_underlying hd,Result.andThen_ok]
     cases d<;>simp at hp ⊢
    ·refine OpR.pure hw (u:= .tuple [v',.bool true].toArray) ?_ ?_
     ·simp only[execOp,ho,hu,Instr.typeAssert,Sem.run_bind,run_underlying hd,Result.andThen_ok]
      cases d<;>simp at hp ⊢
     ·have:=VRs.cons h1 (VRs.cons (VR.bool true) VRs.nil)
      exact .tup _ _ this.1 this.2
theorem du {q:TypeId} (hq:szA P q≠0):∃ i,P.info? q=some i∧i.size=szA P q:=by
 unfold szA Program.cellsOf at*
 rcases hi:P.info? q with _ | i
 ·simp[hi]at hq
 ·exact⟨i,rfl,by simp⟩
theorem yv {q:TypeId} {d:TypeDesc} (hd:P.underlying q=some d):∃ i,P.info? q=some i:=by
 unfold Program.underlying at hd
 rcases hi:P.info? q with _ | i
 ·simp[hi]at hd
 ·exact⟨i,rfl⟩
theorem Ae {s:TypeId} {f:Nat} {q:Nat×TypeId} (hq:((gS P s).bind (·[f]?))=some q):∃ fs fd,P.underlying s=some (.struct fs)∧fs[f]? =some fd∧fd.offset=q.1∧fd.type=q.2:=by
 unfold gS at hq
 split at hq
 ·rename_i fs hfs
  simp at hq
  obtain⟨fd,h1,h2⟩:=hq
  exact⟨fs,fd,hfs,h1,by rw[←h2],by rw[←h2]⟩
 ·simp at hq
theorem CX (hw:WR P m h w) (ht:TR P m h t a.tmps) (s:TypeId) (x:Operand) (f:Nat) (ho:o.op= .fieldAddr s x f) {q:Nat×TypeId} (hq:((gS P s).bind (·[f]?))=some q) (hz:szA P q.2≠0) {v:AV}
  (hv:aP q.1 (evA t x)=some v):OpR P m h a w o v h:=by
 obtain⟨fs,fd,h1,h2,h3,h4⟩:=Ae hq
 obtain⟨i0,hi0,hi1⟩:=du hz
 have hc:=aM ht x
 revert hv hc
 obtain⟨u,hu⟩:∃ u,a.eval x=u:=⟨_,rfl⟩
 rw[hu]
 generalize evA t x=ex
 intro hv hc
 have run:∀ g off,(execOp a.eval o).run P w= .ok (.value (.pointer (some ⟨g,off+q.1,none⟩))) w∨u≠.pointer (some ⟨g,off,none⟩):=by
  intro g off
  by_cases hug:u= .pointer (some ⟨g,off,none⟩)
  ·left
   subst hug
   simp only[execOp,ho,hu,Instr.fieldAt,Sem.run_bind,run_underlying h1,Result.andThen_ok,h2,Instr.sureAddr,Sem.run_pure,fieldPlace,h4,sizeOf,typeInfo,run_program,hi0,hi1,hz,if_false,h3,Addr.add_lit]
  ·exact .inr hug
 cases hc<;>simp[aP]at hv
 ·rename_i b i off hb
  subst hv
  refine OpR.pure hw (u:= .pointer (some ⟨m.blk b,i*P.cellsOf (m.bt b)+(off+q.1),none⟩)) ?_ (.ptr b i _ hb)
  have:=(run (m.blk b) (i*P.cellsOf (m.bt b)+off)).resolve_right (by simp)
  rwa [Nat.add_assoc]at this
 ·rename_i t' b hb ht'
  have:=(run (m.blk b) 0).resolve_right (by simp)
  rw[Nat.zero_add]at this
  by_cases hz0:q.1=0
  ·rw[if_pos hz0]at hv
   subst hv
   rw[hz0]at this
   exact OpR.pure hw this (.tptr _ b hb ht')
  ·rw[if_neg hz0]at hv
   subst hv
   have hp:=VR.ptr (P:=P) (m:=m) (h:=h) b 0 q.1 hb
   rw[Nat.zero_mul,Nat.zero_add]at hp
   exact OpR.pure hw this hp
 ·rename_i e off g o' F hi hv'
  subst hv
  refine OpR.pure hw (u:= .pointer (some ⟨g,o'+(off+q.1),none⟩)) ?_ (.ip e _ g o' F hi hv')
  have:=(run g (o'+off)).resolve_right (by simp)
  rwa [Nat.add_assoc]at this
end
open Go Go.RowKit
section
variable {P:Program} {m m':Mm} {h h':AH} {w w':World} {t:List AV} {a:Act} {o:Oper}
theorem xi (ty:TypeId) {d:TypeDesc} (hd:P.underlying ty=some d) (hz:szA P ty≠0) {cs:List AV} {cs':List Value} (hr:VRs P m h cs cs') (off:Nat) {v:AV} (hv:ldA (iK P ty) (szA P ty) cs off=some v):
  ∃ u,(part ty cs'.toArray off).run P w= .ok u w∧VR P m h v u:=by
 obtain⟨i0,hi0,hi1⟩:=du hz
 unfold ldA at hv
 unfold part
 simp only[Sem.run_bind,wB ty hd,Result.andThen_ok]
 cases hag:iK P ty
 ·simp only[hag,Bool.false_eq_true,if_false]at hv ⊢
  obtain⟨u,h1,h2⟩:=hr.get? hv
  exact⟨u,by simp[h1],h2⟩
 ·simp only[hag,if_true]at hv ⊢
  split at hv
  ·rename_i hle
   injection hv with hv
   subst hv
   refine⟨.agg ((cs'.drop off).take (szA P ty)).toArray,?_,?_⟩
   ·simp[sizeOf,typeInfo,hi0,hi1]
   ·refine .agg _ _ (by simp[hr.1]) (fun j hj hj'=> ?_)
    simp only[List.getElem_take,List.getElem_drop]
    exact hr.2 _ _ _
  ·cases hv
theorem SC (hw:WR P m h w) (ht:TR P m h t a.tmps) (s:TypeId) (x:Operand) (f:Nat) (ho:o.op= .field s x f) {q:Nat×TypeId} (hq:((gS P s).bind (·[f]?))=some q) (hz:szA P q.2≠0) (hu2:P.underlying q.2≠none) {cs:List AV} {v:AV}
  (hx:evA t x= .agg cs) (hv:ldA (iK P q.2) (szA P q.2) cs q.1=some v):OpR P m h a w o v h:=by
 obtain⟨fs,fd,h1,h2,h3,h4⟩:=Ae hq
 have hc:=aM ht x
 rw[hx]at hc
 obtain⟨u,hu⟩:∃ u,a.eval x=u:=⟨_,rfl⟩
 rw[hu]at hc
 obtain⟨d,hd⟩:=Option.ne_none_iff_exists'.1 hu2
 cases hc with
 | agg _ l' g1 g3=>
   obtain⟨u',r1,r2⟩:=xi (w:=w) q.2 hd hz (cs:=cs) (cs':=l') ⟨g1,g3⟩ q.1 hv
   refine OpR.pure hw (u:=u') ?_ r2
   simp[execOp,ho,hu,Instr.field,run_underlying h1,h2,asAgg,h3,h4,r1]
theorem eK {ty e:TypeId} (he:d8 P ty=some e):P.underlying ty=some (.slice e):=by
 unfold d8 at he
 split at he
 case isFalse=>cases he
 split at he
 ·rename_i e' h1
  injection he with he
  rw[h1,he]
 ·cases he
theorem iv (hT:pO P) {ty e:TypeId} (he:d8 P ty=some e):0<P.cellsOf e:=by
 have h:=he
 unfold d8 at h
 split at h
 ·rename_i hlt
  exact hT.pos ty e hlt (eK he)
 ·cases h
theorem KU {e:TypeId} {z:List AV} (hz:eH P e=some z):e<P.types.size:=by
 unfold eH at hz
 split at hz
 ·assumption
 ·cases hz
theorem vB {ty:TypeId} {q:Nat×TypeId} (he:ri P ty=some q):P.underlying ty=some (.array q.1 q.2):=by
 unfold ri at he
 split at he
 ·rename_i n e h1
  injection he with he
  rw[h1,←he]
 ·cases he
theorem CG (hT:pO P) (hw:WR P m h w) (ht:TR P m h t a.tmps) (ty:TypeId) (x ix:Operand) (ho:o.op= .indexAddr ty x ix) {v:AV}
  (hv:fv P ty (evA t x) (evA t ix)=some v):OpR P m h a w o v h:=by
 have hc:=aM ht x
 have hk:=aM ht ix
 revert hv hc hk
 obtain⟨u,hu⟩:∃ u,a.eval x=u:=⟨_,rfl⟩
 obtain⟨ku,hku⟩:∃ ku,a.eval ix=ku:=⟨_,rfl⟩
 rw[hu,hku]
 generalize evA t x=ex
 generalize evA t ix=ek
 intro hv hc hk
 cases hc with
 | isl0 e a' cap=>
   cases hk with
   | int kk k=>
     simp only[fv]at hv
     split at hv
     ·simp at hv
     ·cases hv
   | _=>simp[fv]at hv
 | isl id e es g o' cap F hl hi hvv hcap htt=>
   cases hk with
   | int kk k=>
     simp only[fv]at hv
     split at hv
     ·rename_i hcond
      obtain⟨he,hk0⟩:=hcond
      have hes:=eK he
      have hpos:=iv hT he
      obtain⟨r,hr,hv⟩:=Option.map_eq_some_iff.1 hv
      obtain⟨hlt,hr2⟩:=List.getElem?_eq_some_iff.1 hr
      obtain⟨i0,hi0,hi1⟩:=du (P:=P) (q:=e) (by unfold szA;omega)
      have hlen:r.length=P.cellsOf e:=hl r (hr2 ▸ List.getElem_mem hlt)
      subst hv
      refine OpR.pure hw (u:= .pointer (some ⟨g,o'+k.toNat*P.cellsOf e+0,none⟩)) ?_ (.ip r 0 g (o'+k.toNat*P.cellsOf e) (F k.toNat) ?_ ?_)
      ·have hki:k<(es.length:Int):=by omega
       have h1:i0.size=P.cellsOf e:=hi1
       simp only[execOp,ho,hu,hku,Instr.indexAt,asIntOf,Sem.run_bind,Sem.run_pure,Result.andThen_ok,run_underlying hes,hk0,hki,and_self,if_true,sizeOf,typeInfo,run_program,hi0,h1,Addr.add_lit,Nat.add_zero]
      ·intro j hj
       rw[Nat.add_assoc]
       exact hi k.toNat hlt j (by omega)
      ·intro j hj
       have:=hvv k.toNat hlt j (by rw[hr2];exact hj)
       simpa only[hr2]using this
     ·cases hv
   | _=>simp[fv]at hv
 | msl b o' n e cap hb he' hcap hn hmx=>
   cases hk with
   | int kk k=>
     simp only[fv]at hv
     split at hv
     ·rename_i hcond
      obtain⟨he,hk0,hkn⟩:=hcond
      have hes:=eK he
      have hpos:=iv hT he
      obtain⟨i0,hi0,hi1⟩:=du (P:=P) (q:=e) (by unfold szA;omega)
      injection hv with hv
      subst hv
      have hp:=VR.ptr (P:=P) (m:=m) (h:=h) b (o'+k.toNat) 0 hb
      rw[he']at hp
      refine OpR.pure hw (u:= .pointer (some ⟨m.blk b,(o'+k.toNat)*P.cellsOf e+0,none⟩)) ?_ hp
      have h1:i0.size=P.cellsOf e:=hi1
      simp only[execOp,ho,hu,hku,Instr.indexAt,asIntOf,Sem.run_bind,Sem.run_pure,Result.andThen_ok,run_underlying hes,hk0,hkn,and_self,if_true,sizeOf,typeInfo,run_program,hi0,h1,Addr.add_lit,Nat.add_zero,Nat.add_mul]
     ·cases hv
   | _=>simp[fv]at hv
 | ptr b i off hb=>
   cases hk with
   | int kk k=>
     simp only[fv]at hv
     obtain⟨q,hq,hv⟩:=Option.bind_eq_some_iff.1 hv
     split at hv
     ·rename_i hcond
      obtain⟨hz,hk0,hkn⟩:=hcond
      have har:=vB hq
      obtain⟨i0,hi0,hi1⟩:=du hz
      injection hv with hv
      subst hv
      have hp:=VR.ptr (P:=P) (m:=m) (h:=h) b i (off+k.toNat*szA P q.2) hb
      refine OpR.pure hw (u:=_) ?_ hp
      simp only[execOp,ho,hu,hku,Instr.indexAt,asIntOf,Instr.sureAddr,Sem.run_bind,Sem.run_pure,Result.andThen_ok,run_underlying har,hk0,hkn,and_self,if_true,sizeOf,typeInfo,run_program,hi0,hi1,Addr.add_lit,Nat.add_assoc]
     ·cases hv
   | _=>simp[fv]at hv
 | ip e off g o' F hi hvv=>
   cases hk with
   | int kk k=>
     simp only[fv]at hv
     obtain⟨q,hq,hv⟩:=Option.bind_eq_some_iff.1 hv
     split at hv
     ·rename_i hcond
      obtain⟨hz,hk0,hkn⟩:=hcond
      have har:=vB hq
      obtain⟨i0,hi0,hi1⟩:=du hz
      injection hv with hv
      subst hv
      have hp:=VR.ip (P:=P) (m:=m) (h:=h) e (off+k.toNat*szA P q.2) g o' F hi hvv
      refine OpR.pure hw (u:=_) ?_ hp
      simp only[execOp,ho,hu,hku,Instr.indexAt,asIntOf,Instr.sureAddr,Sem.run_bind,Sem.run_pure,Result.andThen_ok,run_underlying har,hk0,hkn,and_self,if_true,sizeOf,typeInfo,run_program,hi0,hi1,Addr.add_lit,Nat.add_assoc]
     ·cases hv
   | _=>simp[fv]at hv
 | _=>simp[fv]at hv
theorem XY (l:List UInt8) (n:Nat):(⟨l.toArray⟩:ByteArray)[n]? =l[n]? :=by
 by_cases hn:n<l.length
 ·rw[ByteArray.getElem?_lt' _ _ (by simpa[ByteArray.size]using hn),List.getElem?_eq_getElem hn]
  rfl
 ·rw[ByteArray.getElem?_ge' _ _ (by simpa[ByteArray.size]using hn),List.getElem?_eq_none (by omega)]
theorem ND (hw:WR P m h w) (ht:TR P m h t a.tmps) (ty:TypeId) (x ix:Operand) (ho:o.op= .index ty x ix) {v:AV}
  (hv:ixA P ty (evA t x) (evA t ix)=some v):OpR P m h a w o v h:=by
 have hc:=aM ht x
 have hk:=aM ht ix
 revert hv hc hk
 obtain⟨u,hu⟩:∃ u,a.eval x=u:=⟨_,rfl⟩
 obtain⟨ku,hku⟩:∃ ku,a.eval ix=ku:=⟨_,rfl⟩
 rw[hu,hku]
 generalize evA t x=ex
 generalize evA t ix=ek
 intro hv hc hk
 cases hc with
 | str l=>
   cases hk with
   | int kk k=>
     simp only[ixA]at hv
     split at hv
     ·rename_i hcond
      obtain⟨hs,hk0⟩:=hcond
      obtain⟨c,hcc,hv⟩:=Option.map_eq_some_iff.1 hv
      subst hv
      unfold fZ at hs
      split at hs
      ·rename_i hun
       refine OpR.pure hw (u:= .int .u8 c.toNat) ?_ (.int _ _)
       simp only[execOp,ho,hu,hku,Instr.index,asIntOf,Sem.run_bind,Sem.run_pure,Result.andThen_ok,run_underlying hun,hk0,if_true,XY,hcc]
      ·cases hs
     ·cases hv
   | _=>simp[ixA]at hv
 | agg cs l' g1 g3=>
   cases hk with
   | int kk k=>
     simp only[ixA]at hv
     obtain⟨q,hq,hv⟩:=Option.bind_eq_some_iff.1 hv
     split at hv
     ·rename_i hcond
      obtain⟨hqs,hz,hk0,hkn⟩:=hcond
      have har:=vB hq
      obtain⟨i0,hi0,hi1⟩:=du hz
      obtain⟨d,hd⟩:=Option.isSome_iff_exists.1 hqs
      obtain⟨u',r1,r2⟩:=xi (w:=w) q.2 hd hz (cs:=cs) (cs':=l') ⟨g1,g3⟩ _ hv
      refine OpR.pure hw (u:=u') ?_ r2
      simp only[execOp,ho,hu,hku,Instr.index,asIntOf,Sem.run_bind,Sem.run_pure,Result.andThen_ok,run_underlying har,hk0,hkn,and_self,if_true,sizeOf,typeInfo,run_program,hi0,hi1,r1]
     ·cases hv
   | _=>simp[ixA]at hv
 | _=>simp[ixA]at hv
end
open Go Go.RowKit
section
variable {P:Program} {m m':Mm} {h h':AH} {w w':World} {t:List AV} {a:Act} {o:Oper}
theorem vp (l:List UInt8):(⟨l.toArray⟩:ByteArray).size=l.length:=by
 show l.toArray.size=_
 simp
theorem WQ (hw:WR P m h w) (ht:TR P m h t a.tmps) (mx:Bool) (x y:Operand) (c:Call) (ho:o.op= .call c) (hc:c.callee= .builtin (if mx then .max else .min)) (ha:c.args= #[x,y]) {v:AV} (hn:mmA mx (evA t x) (evA t y)=some v):OpR P m h a w o v h:=by
 have vx:=aM ht x
 have vy:=aM ht y
 revert hn vx vy
 obtain⟨u,hu⟩:∃ u,a.eval x=u:=⟨_,rfl⟩
 obtain⟨u',hu'⟩:∃ u,a.eval y=u:=⟨_,rfl⟩
 rw[hu,hu']
 generalize evA t x=ex
 generalize evA t y=ey
 intro hn vx vy
 unfold mmA at hn
 split at hn
 ·injection hn with hn
  subst hn
  cases vx
  cases vy
  obtain⟨callee,args,argTypes⟩:=c
  simp only at hc ha
  subst hc ha
  cases mx
  ·refine OpR.pure hw (u:= .int _ _) ?_ (.int _ _)
   simp[execOp,ho,hu,hu',resolve,invoke,builtin,Builtin.min_,Builtin.min2]
  ·refine OpR.pure hw (u:= .int _ _) ?_ (.int _ _)
   simp[execOp,ho,hu,hu',resolve,invoke,builtin,Builtin.max_,Builtin.max2]
 ·cases hn
theorem Yf (hw:WR P m h w) (ht:TR P m h t a.tmps) (x:Operand) (ty:TypeId) (tys:List TypeId) (ho:o.op= .call {callee:= .builtin .len,args:= #[x],argTypes:=(ty::tys).toArray}) {n:Nat} (hf:sr P ty (evA t x)=true) (hn:eW (evA t x)=some n):
  OpR P m h a w o (i64 n) h:=by
 have hc:=aM ht x
 revert hf hn hc
 obtain⟨u,hu⟩:∃ u,a.eval x=u:=⟨_,rfl⟩
 rw[hu]
 generalize evA t x=ex
 intro hf hn hc
 refine OpR.pure hw (u:= .int .i64 n) ?_ (.int _ _)
 have pre:(execOp a.eval o).run P w=((Builtin.len_ (ty::tys).toArray o.type #[u]).run P w).andThen fun v w'=> .ok (.value v) w':=by
  simp[execOp,ho,resolve,invoke,builtin,hu]
 rw[pre]
 cases hc<;>simp[eW,sr]at hf hn
 ·subst hn
  unfold fZ at hf
  split at hf
  ·rename_i hd
   simp[Builtin.len_,run_underlying hd,goInt,vp]
  ·cases hf
 ·subst hn
  unfold Ck at hf
  obtain⟨e,he⟩:=Option.isSome_iff_exists.1 hf
  simp[Builtin.len_,run_underlying (eK he),goInt]
 all_goals
  subst hn
  simp[Builtin.len_,run_underlying (eK hf),goInt]
def tT:Value→Value→Bool
 | .nilIface,.nilIface=>false
 | .agg _,.agg _=>false
 | _,_=>true
theorem zp (op:BinOp) (ty:TypeId) (x y:Operand) (u v:Value) (hne:tT u v=true):(eqGuard op ty x y u v).run P w= .ok () w:=by
 cases op<;>first | rfl | (cases u<;>first | rfl | (cases v<;>first | rfl | simp[tT]at hne))
theorem vn (op:BinOp) (ty yt:TypeId) (x y:Operand) (ho:o.op= .binOp op ty x y yt) {u v r:Value} (hu:a.eval x=u) (hv:a.eval y=v) (hne:tT u v=true)
  (hr:(binOp op ty u v).run P w= .ok r w):(execOp a.eval o).run P w= .ok (.value r) w:=by
 simp only[execOp,ho,hu,hv,Sem.run_bind,zp op ty x y u v hne,Result.andThen_ok,hr,Sem.run_pure]
theorem UH (op:BinOp) (ty:TypeId) (k k':IntKind) (x y:Int) {v:AV} (kd:Kd) (hv:bO kd op (.int k x) (.int k' y)=some v):∃ r,(binOp op ty (.int k x) (.int k' y)).run P w= .ok r w∧VR P m h v r:=by
 cases op
 case shl=>
  simp only[bO]at hv
  split at hv
  ·cases hv
  ·rename_i h0
   injection hv with hv
   subst hv
   exact⟨_,by simp[binOp,Op.shift,h0],.int _ _⟩
 case shr=>
  simp only[bO]at hv
  split at hv
  ·cases hv
  ·rename_i h0
   injection hv with hv
   subst hv
   exact⟨_,by simp[binOp,Op.shift,h0],.int _ _⟩
 case rem=>
  simp only[bO]at hv
  split at hv
  ·rename_i hk
   subst hk
   simp only[oT]at hv
   split at hv
   ·cases hv
   ·rename_i h0
    injection hv with hv
    subst hv
    exact⟨_,by simp[binOp,Op.intDiv,h0],.int _ _⟩
  ·cases hv
 all_goals
  simp only[bO]at hv
  split at hv
  ·rename_i hk
   subst hk
   first
   | (simp only[oT]at hv;injection hv with hv;subst hv;first
     | (refine⟨_,?_,.int _ _⟩;simp[binOp,Op.intArith];done)
     | (refine⟨_,?_,.int _ _⟩;simp[binOp,Op.intBits];done)
     | (refine⟨_,?_,.bool _⟩;simp[binOp,Op.intCmp];done))
   | (simp[oT]at hv)
  ·cases hv
theorem TW (op:BinOp) (ty:TypeId) (x y:List UInt8) {v:AV} (kd:Kd) (hv:bO kd op (.str x) (.str y)=some v):∃ r,(binOp op ty (.string ⟨x.toArray⟩) (.string ⟨y.toArray⟩)).run P w= .ok r w∧VR P m h v r:=by
 cases op<;>simp only[bO]at hv<;>try (cases hv;done)
 ·split at hv
  ·rename_i hle
   injection hv with hv
   subst hv
   refine⟨.string ⟨(x++y).toArray⟩,?_,.str _⟩
   have h1:¬ (IntKind.i64.max<(x.length:Int)+(y.length:Int)):=by
    simp[IntKind.max,IntKind.bits,IntKind.signed]
    omega
   have e:(⟨x.toArray⟩:ByteArray)++⟨y.toArray⟩=⟨(x++y).toArray⟩:=by
    apply ByteArray.ext
    simp
   simp[binOp,Op.stringOp,vp,h1,e]
   omega
  ·cases hv
 ·injection hv with hv
  subst hv
  exact⟨_,by simp[binOp,Op.stringOp,bne],.bool _⟩
 ·injection hv with hv
  subst hv
  exact⟨_,by simp[binOp,Op.stringOp,bne],.bool _⟩
set_option maxHeartbeats 1000000 in
theorem PU (ty:TypeId) {x y:AV} {u v:Value} {b:Bool} (hb:eqA (cB P ty) x y=some b) (hx:VR P m h x u) (hy:VR P m h y v):
  tT u v=true∧(binOp .eql ty u v).run P w= .ok (.bool b) w∧(binOp .neq ty u v).run P w= .ok (.bool !b) w:=by
 have hk:(cB P ty= .bool∨cB P ty= .ptr∨cB P ty= .slice)∨(cB P ty= .func∨cB P ty= .iface):=by
  revert hb
  generalize cB P ty=kd
  intro hb
  unfold eqA at hb
  split at hb<;>simp_all
 rcases hk with(hk | hk | hk) | (hk | hk)
 all_goals
  have hd:=hk
  unfold cB at hd
  rw[hk]at hb
  split at hd<;>simp at hd
 all_goals
  rename_i hd'
  have fin:∀ {u v:Value},tT u v=true→(∀ d,(Op.equalIn (d+1) ty u v).run P w= .ok b w)→(∀ op,op=BinOp.eql∨op=BinOp.neq→binOp op ty u v=(match op with | .eql=>(do pure (.bool (←Op.equal ty u v))) | _=>(do pure (.bool (!(←Op.equal ty u v)))):Sem Value))→
    tT u v=true∧(binOp .eql ty u v).run P w= .ok (.bool b) w∧(binOp .neq ty u v).run P w= .ok (.bool !b) w:=by
   intro u v h1 h2 h3
   have h4:(Op.equal ty u v).run P w= .ok b w:=h2 9999
   refine⟨h1,?_,?_⟩
   ·rw[h3 _ (.inl rfl)]
    simp[h4]
   ·rw[h3 _ (.inr rfl)]
    simp[h4]
  cases hx<;>simp[eqA]at hb<;>cases hy<;>simp[eqA]at hb<;>(try subst hb)<;>refine fin rfl (fun d=> ?_) (fun op ho=>by rcases ho with rfl | rfl<;>rfl)<;>simp[Op.equalIn,run_underlying hd']
end
open Go Go.RowKit
section
variable {P:Program} {m m':Mm} {h h':AH} {w w':World} {t:List AV} {a:Act} {o:Oper}
theorem OR {ty:TypeId} {k:IntKind} (hk:cB P ty= .int k):P.underlying ty=some (.int k):=by
 unfold cB at hk
 split at hk<;>simp at hk
 rename_i h1
 rw[h1,hk]
theorem MB {ty:TypeId} (hk:cB P ty= .bool):P.underlying ty=some .bool:=by
 unfold cB at hk
 split at hk<;>simp at hk
 assumption
theorem O2 {ty:TypeId} (hk:cB P ty= .str):P.underlying ty=some .string:=by
 unfold cB at hk
 split at hk<;>simp at hk
 assumption
theorem wX (ty:TypeId) {d:TypeDesc} (hd:P.underlying ty=some d) (hag:iK P ty=false) (cs:List Value) (off:Nat) {u:Value} (hu:cs[off]? =some u):(part ty cs.toArray off).run P w= .ok u w:=by
 unfold part
 simp only[Sem.run_bind,wB ty hd,Result.andThen_ok,hag]
 simp[hu]
theorem sH:∀ (fs:List Field) (i d:Nat) (X Y:List AV) (X' Y':List Value) (r:Bool),VRs P m h X X'→VRs P m h Y Y'→
  (fs.zipIdx i).all (fun(f,i)=>f.name != "_" && f.offset==i && P.cellsOf f.type==1)=true→eJ (fs.map fun f=>cB P f.type) (X.drop i) (Y.drop i)=some r→
  (Op.eqFields (d+1) X'.toArray Y'.toArray fs).run P w= .ok r w
 | [],i,d,X,Y,X',Y',r,hX,hY,hf,he=>by
   simp only[List.map_nil]at he
   unfold eJ at he
   split at he<;>simp_all [Op.eqFields]
 | f::fs,i,d,X,Y,X',Y',r,hX,hY,hf,he=>by
   simp only[List.zipIdx_cons,List.all_cons,Bool.and_eq_true,bne_iff_ne,beq_iff_eq]at hf
   obtain⟨⟨⟨hn,hoff⟩,_⟩,hrest⟩:=hf
   simp only[List.map_cons]at he
   have step:∀ (x y:AV) (xs ys:List AV) (b r':Bool),X.drop i=x::xs→Y.drop i=y::ys→eJ (fs.map fun f=>cB P f.type) xs ys=some r'→r=(b && r')→iK P f.type=false→(∃ dd,P.underlying f.type=some dd)→
     (∀ u v,VR P m h x u→VR P m h y v→(Op.equalIn (d+1) f.type u v).run P w= .ok b w)→(Op.eqFields (d+1) X'.toArray Y'.toArray (f::fs)).run P w= .ok r w:=by
    intro x y xs ys b r' ex ey er hr hag ⟨dd,hdd⟩ heq
    have hx:X[i]? =some x:=by
     have:=congrArg (·[0]?) ex
     simpa using this
    have hy:Y[i]? =some y:=by
     have:=congrArg (·[0]?) ey
     simpa using this
    obtain⟨u,hu1,hu2⟩:=hX.get? hx
    obtain⟨v,hv1,hv2⟩:=hY.get? hy
    have exs:X.drop (i+1)=xs:=by
     have:=congrArg (List.drop 1) ex
     simpa using this
    have eys:Y.drop (i+1)=ys:=by
     have:=congrArg (List.drop 1) ey
     simpa using this
    have ih:=sH fs (i+1) d X Y X' Y' r' hX hY hrest (by rw[exs,eys];exact er)
    have p1:=wX (w:=w) f.type hdd hag X' i hu1
    have p2:=wX (w:=w) f.type hdd hag Y' i hv1
    simp only[Op.eqFields,hn,ne_eq,not_false_eq_true,if_true,hoff,Sem.run_bind,p1,p2,Result.andThen_ok,heq u v hu2 hv2]
    cases b
    ·simp[hr]
    ·simp[hr,ih]
   generalize hXd:X.drop i=Xd at he step
   generalize hYd:Y.drop i=Yd at he step
   unfold eJ at he
   split at he
   ·rename_i hq
    simp at hq
   ·rename_i _ _ _ k0 ks k a' xs k' b' ys e1
    injection e1 with e1 e2
    split at he
    ·rename_i hkk
     subst hkk
     obtain⟨r',h1,h2⟩:=Option.map_eq_some_iff.1 he
     have hun:=OR e1
     refine step _ _ _ _ (a'==b') r' rfl rfl (by rw[e2];exact h1) h2.symm (by simp[iK,hun]) ⟨_,hun⟩ (fun u v hu hv=> ?_)
     cases hu
     cases hv
     simp[Op.equalIn,run_underlying hun]
    ·cases he
   ·rename_i _ _ _ ks a' xs b' ys e1
    injection e1 with e1 e2
    obtain⟨r',h1,h2⟩:=Option.map_eq_some_iff.1 he
    have hun:=MB e1
    refine step _ _ _ _ (a'==b') r' rfl rfl (by rw[e2];exact h1) h2.symm (by simp[iK,hun]) ⟨_,hun⟩ (fun u v hu hv=> ?_)
    cases hu
    cases hv
    simp[Op.equalIn,run_underlying hun]
   ·rename_i _ _ _ ks a' xs b' ys e1
    injection e1 with e1 e2
    obtain⟨r',h1,h2⟩:=Option.map_eq_some_iff.1 he
    have hun:=O2 e1
    refine step _ _ _ _ (a'==b') r' rfl rfl (by rw[e2];exact h1) h2.symm (by simp[iK,hun]) ⟨_,hun⟩ (fun u v hu hv=> ?_)
    cases hu
    cases hv
    simp[run_equalIn_string,hun]
   ·cases he
theorem Fv (hw:WR P m h w) (ht:TR P m h t a.tmps) (op:BinOp) (ty yt:TypeId) (x y:Operand) (ho:o.op= .binOp op ty x y yt) {xs ys:List AV} {ks:List Kd} {b:Bool} {v:AV} (hx:evA t x= .agg xs) (hy:evA t y= .agg ys) (hk:pS P ty=some ks)
  (hb:eJ ks xs ys=some b) (hop:(op= .eql∧v= .bool b)∨(op= .neq∧v= .bool !b)):OpR P m h a w o v h:=by
 have h1:=aM ht x
 have h2:=aM ht y
 rw[hx]at h1
 rw[hy]at h2
 obtain⟨u1,hu1⟩:∃ u,a.eval x=u:=⟨_,rfl⟩
 obtain⟨u2,hu2⟩:∃ u,a.eval y=u:=⟨_,rfl⟩
 rw[hu1]at h1
 rw[hu2]at h2
 cases h1 with
 | agg _ l1 a1 a2=>
 cases h2 with
 | agg _ l2 b1 b2=>
 unfold pS at hk
 split at hk
 ·rename_i fs hfs
  split at hk
  ·rename_i hc
   injection hk with hk
   subst hk
   simp only[Bool.and_eq_true,Bool.not_eq_true']at hc
   obtain⟨⟨c1,c2⟩,c3⟩:=hc
   have hfo:P.fieldsOf ty=fs:=by simp[Program.fieldsOf,hfs]
   have hun:P.underlying ty=some (.struct (P.fieldsOf ty)):=by rw[hfo];exact hfs
   have hE:(Op.equalIn 10000 ty (.agg l1.toArray) (.agg l2.toArray)).run P w= .ok b w:=by
    rw[show(10000:Nat)=9999+1 from rfl,run_equalIn_agg w 9999 ty _ _ hun c1,hfo]
    exact sH fs.toList 0 9998 xs ys l1 l2 b ⟨a1,a2⟩ ⟨b1,b2⟩ c3 hb
   rcases hop with⟨rfl,rfl⟩ | ⟨rfl,rfl⟩
   ·refine OpR.pure hw (u:= .bool b) ?_ (.bool _)
    simp only[execOp,ho,hu1,hu2,Sem.run_bind,run_eqGuard_agg w _ _ _ _ _ _ c2,Result.andThen_ok,run_eql_struct,hE,Sem.run_pure]
   ·refine OpR.pure hw (u:= .bool !b) ?_ (.bool _)
    simp only[execOp,ho,hu1,hu2,Sem.run_bind,run_eqGuard_agg w _ _ _ _ _ _ c2,Result.andThen_ok,run_neq_struct,hE,Sem.run_pure]
  ·cases hk
 ·cases hk
theorem Aj (x:Value) (k:IntKind) (i:Int) (y:Nat) (c:BoundsCode) (hx:x= .int k i) (h0:0≤i) (h1:i≤y):(Instr.sliceBound x y c).run P w= .ok i.toNat w:=by
 subst hx
 simp[Instr.sliceBound,asIntOf,h0,h1]
theorem kN (isS:Bool) (n cap:Nat) (lo hi:Option Operand) (ht:TR P m h t a.tmps) {l r:Int} (hl:loA (lo.map (evA t))=some l) (hr:hiA n (hi.map (evA t))=some r) (h0:0≤l) (h1:l≤r) (h2:r≤n) (h3:n≤cap):
  (Instr.sliceBounds isS n cap (lo.map a.eval) (hi.map a.eval) none).run P w= .ok (l.toNat,r.toNat,cap) w:=by
 have hhi:∀ x,hi=some x→∀ (y:Nat) c,r≤(y:Int)→(Instr.sliceBound (a.eval x) y c).run P w= .ok r.toNat w:=by
  intro x hx0 y c hy
  subst hx0
  have hx:=aM ht x
  simp only[Option.map_some]at hr
  generalize evA t x=ex at hr hx
  generalize a.eval x=ax at hx
  cases hx<;>simp[hiA]at hr
  subst hr
  exact Aj _ _ _ _ _ rfl (by omega) (by omega)
 have hlo:∀ x,lo=some x→∀ (y:Nat) c,l≤(y:Int)→(Instr.sliceBound (a.eval x) y c).run P w= .ok l.toNat w:=by
  intro x hx0 y c hy
  subst hx0
  have hx:=aM ht x
  simp only[Option.map_some]at hl
  generalize evA t x=ex at hl hx
  generalize a.eval x=ax at hx
  cases hx<;>simp[loA]at hl
  subst hl
  exact Aj _ _ _ _ _ rfl (by omega) (by omega)
 cases hi with
 | none=>
   have hr':r.toNat=n:=by
    simp[hiA]at hr
    omega
   cases lo with
   | none=>
     have hl':l.toNat=0:=by
      simp[loA]at hl
      omega
     simp[Instr.sliceBounds,hr',hl']
   | some x=>simp[Instr.sliceBounds,hr',hlo x rfl n _ (by omega)]
 | some y=>
   cases lo with
   | none=>
     have hl':l.toNat=0:=by
      simp[loA]at hl
      omega
     simp[Instr.sliceBounds,hl',hhi y rfl cap _ (by omega)]
   | some x=>simp[Instr.sliceBounds,hhi y rfl cap _ (by omega),hlo x rfl r.toNat _ (by omega)]
theorem NJ {ty:TypeId} (h1:fZ P ty=true):P.underlying ty=some .string:=by
 unfold fZ at h1
 split at h1
 ·assumption
 ·cases h1
theorem QQ {ty:TypeId} (h1:Ck P ty=true):∃ e,d8 P ty=some e:=by
 unfold Ck at h1
 exact Option.isSome_iff_exists.1 h1
theorem Q0 (hT:pO P) (hw:WR P m h w) (ht:TR P m h t a.tmps) (ty:TypeId) (x:Operand) (lo hi:Option Operand) (ho:o.op= .slice ty x lo hi none) (hf:sr P ty (evA t x)=true) {v:AV} (hv:mX (evA t x) (lo.map (evA t)) (hi.map (evA t))=some v):
  OpR P m h a w o v h:=by
 have hc:=aM ht x
 have key:∃ l n r,loA (lo.map (evA t))=some l∧eW (evA t x)=some n∧hiA n (hi.map (evA t))=some r∧(0≤l∧l≤r∧r≤n)∧Bw (evA t x) l r=some v:=by
  unfold mX at hv
  obtain⟨l,hl,hv1⟩:=Option.bind_eq_some_iff.1 hv
  obtain⟨n,hn,hv2⟩:=Option.bind_eq_some_iff.1 hv1
  obtain⟨r,hr,hv3⟩:=Option.bind_eq_some_iff.1 hv2
  split at hv3
  ·rename_i hcond
   exact⟨l,n,r,hl,hn,hr,hcond,hv3⟩
  ·cases hv3
 clear hv
 obtain⟨l,n,r,hl,hn,hr,⟨h0,h1,h2⟩,hv⟩:=key
 ·revert hf hc hn hv
  obtain⟨u,hu⟩:∃ u,a.eval x=u:=⟨_,rfl⟩
  rw[hu]
  generalize evA t x=ex
  intro hf hc hn hv
  have pre:∀ {d:TypeDesc},P.underlying ty=some d→(∀ k e,d≠.array k e)→(execOp a.eval o).run P w=((Instr.slice ty u (lo.map a.eval) (hi.map a.eval) none).run P w).andThen fun v w'=> .ok (.value v) w':=by
   intro d hd hne
   simp only[execOp,ho,hu,Instr.sliceAt,Sem.run_bind,run_underlying hd,Result.andThen_ok,Option.map_none]
   cases d<;>first | rfl | exact absurd rfl (hne _ _)
  cases hc with
  | str s=>
    simp only[eW,Option.some.injEq]at hn
    simp only[Bw,Option.some.injEq]at hv
    subst hn
    subst hv
    ·have hd:=NJ (P:=P) (ty:=ty) hf
     refine OpR.pure hw (u:= .string ⟨((s.drop l.toNat).take (r.toNat - l.toNat)).toArray⟩) ?_ (.str _)
     rw[pre hd (by simp)]
     simp only[Instr.slice,Sem.run_bind,run_underlying hd,Result.andThen_ok,Option.isSome_none,Bool.false_eq_true,if_false,vp,Sem.run_pure]
     rw[kN false s.length s.length lo hi ht hl hr h0 h1 h2 (Nat.le_refl _)]
     simp only[Result.andThen_ok]
     congr 3
     apply ByteArray.ext
     simp[ByteArray.data_extract]
  | nils=>
    simp only[eW,Option.some.injEq]at hn
    simp only[Bw,Option.some.injEq]at hv
    subst hn
    subst hv
    ·obtain⟨e,hf'⟩:=QQ (P:=P) (ty:=ty) hf
     have hd:=eK hf'
     have hpos:=iv hT hf'
     obtain⟨i0,hi0,hi1⟩:=du (P:=P) (q:=e) (by unfold szA;omega)
     have hl0:l=0:=by omega
     have hr0:r=0:=by omega
     refine OpR.pure hw (u:= .slice none 0 0) ?_ .nils
     rw[pre hd (by simp)]
     simp only[Instr.slice,Sem.run_bind,run_underlying hd,Result.andThen_ok]
     rw[kN true 0 0 lo hi ht hl hr h0 h1 h2 (Nat.le_refl _)]
     simp[hl0,hr0,sizeOf,typeInfo,hi0]
  | isl0 e a' cap=>
    simp only[eW,Option.some.injEq,List.length_nil]at hn
    simp only[Bw,Option.some.injEq,List.drop_nil,List.take_nil]at hv
    subst hn
    subst hv
    simp only[sr,beq_iff_eq]at hf
    have hd:=eK hf
    have hpos:=iv hT hf
    obtain⟨i0,hi0,hi1⟩:=du (P:=P) (q:=e) (by unfold szA;omega)
    have hl0:l=0:=by omega
    have hr0:r=0:=by omega
    refine OpR.pure hw (u:= .slice (some a') 0 cap) ?_ (.isl0 e a' cap)
    rw[pre hd (by simp)]
    simp only[Instr.slice,Sem.run_bind,run_underlying hd,Result.andThen_ok]
    rw[kN true 0 cap lo hi ht hl hr h0 h1 h2 (Nat.zero_le _)]
    simp[hl0,hr0,sizeOf,typeInfo,hi0,Addr.add]
  | isl id e es g o' cap F hle hi' hvv hcap htt=>
    simp only[eW,Option.some.injEq]at hn
    simp only[Bw,Option.some.injEq]at hv
    subst hn
    subst hv
    simp only[sr,beq_iff_eq]at hf
    have hd:=eK hf
    have hpos:=iv hT hf
    obtain⟨i0,hi0,hi1⟩:=du (P:=P) (q:=e) (by unfold szA;omega)
    have hi2:i0.size=P.cellsOf e:=hi1
    have hlen:((es.drop l.toNat).take (r.toNat - l.toNat)).length=r.toNat - l.toNat:=by simp;omega
    have hrun:(execOp a.eval o).run P w= .ok (.value (.slice (some (if cap=l.toNat then⟨g,o',none⟩else⟨g,o'+l.toNat*P.cellsOf e,none⟩)) (r.toNat - l.toNat) (cap - l.toNat))) w:=by
     rw[pre hd (by simp)]
     simp only[Instr.slice,Sem.run_bind,run_underlying hd,Result.andThen_ok]
     rw[kN true es.length cap lo hi ht hl hr h0 h1 h2 hcap]
     simp only[Result.andThen_ok,sizeOf,typeInfo,Sem.run_bind,run_program,hi0,Sem.run_pure,hi2]
     by_cases hcl:cap=l.toNat
     ·simp[hcl]
     ·simp[hcl,Addr.add_lit]
    obtain⟨o2,ho2⟩:∃ o2,(if cap=l.toNat then(⟨g,o',none⟩:Addr)else⟨g,o'+l.toNat*P.cellsOf e,none⟩)=⟨g,o2,none⟩∧(cap≠l.toNat→o2=o'+l.toNat*P.cellsOf e):=by
     by_cases hcl:cap=l.toNat
     ·exact⟨o',by simp[hcl],fun hne=>absurd hcl hne⟩
     ·exact⟨_,by simp[hcl],fun _=>rfl⟩
    obtain⟨ho2,ho3⟩:=ho2
    rw[ho2]at hrun
    refine OpR.pure hw hrun ?_
    have hres:=VR.isl (P:=P) (m:=m) (h:=h) none e ((es.drop l.toNat).take (r.toNat - l.toNat)) g o2 (cap - l.toNat) (fun i j=>F (l.toNat+i) j) (fun q hq=>hle q (List.mem_of_mem_drop (List.mem_of_mem_take hq))) (by
     intro i hi3 j hj
     rw[hlen]at hi3
     rw[ho3 (by omega)]
     have:=hi' (l.toNat+i) (by omega) j hj
     rw[Nat.add_mul]at this
     rw[←this]
     congr 1
     omega) (by
     intro i hi3 j hj
     simp only[List.getElem_take,List.getElem_drop]at hj ⊢
     exact hvv _ _ j hj) (by rw[hlen];omega) (fun k hk=>by cases hk)
    rw[hlen]at hres
    exact hres
  | msl b o' n' e cap hb he' hcap hnn hmx=>
    simp only[eW,Option.some.injEq]at hn
    simp only[Bw]at hv
    subst hn
    split at hv
    ·rename_i hl0
     injection hv with hv
     subst hv
     subst hl0
     simp only[sr,beq_iff_eq]at hf
     have hd:=eK hf
     have hpos:=iv hT hf
     obtain⟨i0,hi0,hi1⟩:=du (P:=P) (q:=e) (by unfold szA;omega)
     refine OpR.pure hw (u:= .slice (some ⟨m.blk b,o'*P.cellsOf e,none⟩) r.toNat cap) ?_ (.msl b o' r.toNat e cap hb he' hcap (by omega) hmx)
     rw[pre hd (by simp)]
     simp only[Instr.slice,Sem.run_bind,run_underlying hd,Result.andThen_ok]
     rw[kN true n' cap lo hi ht hl hr h0 h1 h2 hnn]
     simp only[Result.andThen_ok,sizeOf,typeInfo,Sem.run_bind,run_program,hi0,Sem.run_pure]
     by_cases hcl:cap=0
     ·simp[hcl]
     ·simp[Addr.add_lit]
    ·cases hv
  | _=>simp[Bw]at hv
end
open Go Go.RowKit
section
variable {P:Program} {m m':Mm} {h h':AH} {w w':World} {t:List AV} {a:Act} {o:Oper}
theorem E1 (off:Nat) (v:Value) (cells:Array Value):(v.cells.zipIdx.foldl (fun cs (x:Value×Nat)=>cs.setIfInBounds (off+x.2) x.1) cells).size=cells.size∧
  ∀ k,(v.cells.zipIdx.foldl (fun cs (x:Value×Nat)=>cs.setIfInBounds (off+x.2) x.1) cells)[k]? =if off≤k∧k<off+v.cells.size∧k<cells.size then v.cells[k - off]? else cells[k]? :=by
 have:=Go.Great.foldl_set off v.cells.toList 0 cells
 rw[←Array.foldl_toList,Array.toList_zipIdx]
 simpa using this
theorem qk (ht:TR P m h t a.tmps) (place:Nat→Option (Nat×Nat)) (pl:List (Nat×Nat)) (hp:∀ i q,pl[i]? =some q→place i=some q):∀ (L:List (Nat×Operand)) (cs:List AV) (cells:Array Value) (cs':List AV),VRs P m h cs cells.toList→
  jX pl cs (L.map fun q=>(q.1,evA t q.2))=some cs'→∃ cells',Instr.fill place cells (L.map fun q=>(q.1,a.eval q.2))=some cells'∧VRs P m h cs' cells'.toList
 | [],cs,cells,cs',hr,hf=>by
   simp[jX]at hf
   subst hf
   exact⟨cells,by simp[Instr.fill],hr⟩
 | (i,x)::L,cs,cells,cs',hr,hf=>by
   simp only[List.map_cons,jX]at hf
   rcases hpi:pl[i]? with _ | ⟨off,size⟩
   ·simp[hpi]at hf
   ·simp only[hpi]at hf
    split at hf
    ·rename_i hc
     obtain⟨c1,c2,c3⟩:=hc
     obtain⟨v1,v2⟩:=(aM ht x).cells c3
     have hl1:=v1.1
     have hl2:=hr.1
     simp only[Array.length_toList]at hl1 hl2
     obtain⟨f1,f2⟩:=E1 off (a.eval x) cells
     have hr':VRs P m h (stA cs off (evA t x).cells) ((a.eval x).cells.zipIdx.foldl (fun cs (y:Value×Nat)=>cs.setIfInBounds (off+y.2) y.1) cells).toList:=by
      refine⟨by rw[Array.length_toList,f1,stA];simp;omega,fun j hj hj'=> ?_⟩
      have hg:(cs.take off++(evA t x).cells++cs.drop (off+(evA t x).cells.length))[j]? =some (stA cs off (evA t x).cells)[j]:=List.getElem?_eq_getElem hj
      rw[Bk _ _ _ (by omega)]at hg
      have hg':((a.eval x).cells.zipIdx.foldl (fun cs (y:Value×Nat)=>cs.setIfInBounds (off+y.2) y.1) cells)[j]? =some (((a.eval x).cells.zipIdx.foldl (fun cs (y:Value×Nat)=>cs.setIfInBounds (off+y.2) y.1) cells).toList[j]):=by
       rw[←Array.getElem?_toList]
       exact List.getElem?_eq_getElem hj'
      rw[f2 j]at hg'
      by_cases hin:off≤j∧j<off+(evA t x).cells.length
      ·rw[if_pos hin]at hg
       rw[if_pos ⟨hin.1,by omega,by omega⟩]at hg'
       obtain⟨u,u1,u2⟩:=v1.get? hg
       rw[Array.getElem?_toList]at u1
       rw[u1]at hg'
       injection hg' with hg'
       rw[←hg']
       exact u2
      ·rw[if_neg hin]at hg
       rw[if_neg (by omega)]at hg'
       obtain⟨u,u1,u2⟩:=hr.get? hg
       rw[Array.getElem?_toList]at u1
       rw[u1]at hg'
       injection hg' with hg'
       rw[←hg']
       exact u2
     obtain⟨cells',g1,g2⟩:=qk ht place pl hp L _ _ cs' hr' hf
     refine⟨cells',?_,g2⟩
     simp only[List.map_cons,Instr.fill,hp i _ hpi]
     rw[if_neg (by simp;omega)]
     exact g1
    ·cases hf
theorem EW (hT:pO P) (hw:WR P m h w) (ht:TR P m h t a.tmps) (ty:TypeId) (parts:Array (Nat×Operand)) (ho:o.op= .build ty parts) {z:List AV} (hz:eH P ty=some z) {cs:List AV}
  (hv:(∃ pl,gS P ty=some pl∧(∀ q∈pl,szA P q.2≠0)∧jX (pl.map fun q=>(q.1,szA P q.2)) z (parts.toList.map fun q=>(q.1,evA t q.2))=some cs)∨
   (∃ n e,ri P ty=some (n,e)∧szA P e≠0∧jX ((List.range n).map fun i=>(i*szA P e,szA P e)) z (parts.toList.map fun q=>(q.1,evA t q.2))=some cs)):OpR P m h a w o (.agg cs) h:=by
 obtain⟨i,v,hi,hvz,hl,hs,hr,hrun⟩:=eZ (m:=m) (h:=h) (w:=w) hT hz
 have key:∃ cells,P.built ty (parts.map fun(i,x)=>(i,a.eval x)).toList=some cells∧VRs P m h cs cells.toList:=by
  have hpt:(parts.map fun(i,x)=>(i,a.eval x)).toList=parts.toList.map fun q=>(q.1,a.eval q.2):=by simp
  rw[hpt]
  unfold Program.built
  rcases hv with⟨pl,h1,h2,h3⟩ | ⟨n,e,h1,h2,h3⟩
  ·unfold gS at h1
   split at h1
   ·rename_i fs hfs
    injection h1 with h1
    subst h1
    have hpl:fs.toList.mapM (fun f=>(P.info? f.type).map fun i=>(f.offset,i.size))=some (fs.toList.map fun f=>(f.offset,szA P f.type)):=by
     have:∀ l:List Field,(∀ f∈l,szA P f.type≠0)→l.mapM (fun f=>(P.info? f.type).map fun i=>(f.offset,i.size))=some (l.map fun f=>(f.offset,szA P f.type)):=by
      intro l
      induction l with
      | nil=>intro _;rfl
      | cons f l ih=>
        intro hl
        obtain⟨i0,hi0,hi1⟩:=du (hl f (by simp))
        simp[List.mapM_cons,hi0,ih (fun g hg=>hl g (by simp[hg])),hi1]
     exact this _ (fun f hf=>h2 (f.offset,f.type) (List.mem_map.2 ⟨f,hf,rfl⟩))
    simp only[List.map_map]at h3
    obtain⟨cells,g1,g2⟩:=qk ht (fun x=>(fs.toList.map fun f=>(f.offset,szA P f.type)).toArray[x]?) (fs.toList.map ((fun q:Nat×TypeId=>(q.1,szA P q.2))∘fun f=>(f.offset,f.type))) (fun i q hq=>by simpa using hq) parts.toList z v.cells cs hr h3
    refine⟨cells,?_,g2⟩
    simp only[hi,hfs,hvz,hpl]
    exact g1
   ·cases h1
  ·have har:=vB h1
   obtain⟨i0,hi0,hi1⟩:=du h2
   obtain⟨cells,g1,g2⟩:=qk ht (fun i=>some (i*i0.size,i0.size)) ((List.range n).map fun i=>(i*szA P e,szA P e)) (fun i q hq=>by
    simp only[List.getElem?_map,Option.map_eq_some_iff]at hq
    obtain⟨j,hj,rfl⟩:=hq
    have:=List.getElem?_eq_some_iff.1 hj
    obtain⟨hlt,hjj⟩:=this
    simp at hjj
    subst hjj
    rw[hi1]) parts.toList z v.cells cs hr h3
   refine⟨cells,?_,g2⟩
   simp only[hi,har,hvz,hi0]
   exact g1
 obtain⟨cells,h1,h2⟩:=key
 refine OpR.pure hw (u:= .agg cells) ?_ ?_
 ·have e:=run_build (P:=P) w ty (parts.map fun(i,x)=>(i,a.eval x)) cells h1
  simp only[execOp,ho,Sem.run_bind,e,Result.andThen_ok,Sem.run_pure]
 ·have:=VR.agg (P:=P) (m:=m) (h:=h) cs cells.toList h2.1 h2.2
  simpa using this
def KB (P:Program) (m:Mm) (h:AH) (sz:Nat) (es:List (List AV)) (cs:Array Value):Prop:=
 cs.size=es.length*sz∧(∀ r∈es,r.length=sz)∧∀ i (hi:i<es.length) j (hj:j<es[i].length),∃ v,cs[i*sz+j]? =some v∧VR P m h es[i][j] v
theorem uM (ht:TR P m h t a.tmps) (sz:Nat):∀ (L:List (Nat×Operand)) (es:List (List AV)) (cells:Array Value) (es':List (List AV)),KB P m h sz es cells→
  jT sz es (L.map fun q=>(q.1,evA t q.2))=some es'→∃ cells',Instr.fill (fun i=>some (i*sz,sz)) cells (L.map fun q=>(q.1,a.eval q.2))=some cells'∧KB P m h sz es' cells'∧es'.length=es.length
 | [],es,cells,es',hr,hf=>by
   simp[jT]at hf
   subst hf
   exact⟨cells,by simp[Instr.fill],hr,rfl⟩
 | (i,x)::L,es,cells,es',hr,hf=>by
   simp only[List.map_cons,jT]at hf
   split at hf
   ·rename_i hc
    obtain⟨c1,c2,c3⟩:=hc
    obtain⟨v1,v2⟩:=(aM ht x).cells c3
    have hl1:=v1.1
    simp only[Array.length_toList]at hl1
    obtain⟨r1,r2,r3⟩:=hr
    have hin:=cI (s:=sz) c2
    obtain⟨f1,f2⟩:=E1 (i*sz) (a.eval x) cells
    have hr':KB P m h sz (es.set i (evA t x).cells) ((a.eval x).cells.zipIdx.foldl (fun cs (y:Value×Nat)=>cs.setIfInBounds (i*sz+y.2) y.1) cells):=by
     refine⟨by rw[f1,r1,List.length_set],fun r hr=> ?_,fun i' hi' j hj=> ?_⟩
     ·rcases List.mem_or_eq_of_mem_set hr with hq | hq
      ·exact r2 r hq
      ·rw[hq,c1]
     ·rw[f2]
      have hi2:i'<es.length:=by simpa using hi'
      by_cases e1:i'=i
      ·subst e1
       have hrow:(es.set i' (evA t x).cells)[i']=(evA t x).cells:=by simp
       have hj':j<(evA t x).cells.length:=by rw[hrow]at hj;exact hj
       rw[if_pos ⟨by omega,by omega,by omega⟩]
       obtain⟨u,u1,u2⟩:=v1.get? (List.getElem?_eq_getElem hj')
       refine⟨u,by rw[←u1,Array.getElem?_toList];congr 1;omega,?_⟩
       simpa only[hrow]using u2
      ·have hrow:(es.set i (evA t x).cells)[i']=es[i']:=by simp[Ne.symm e1]
       have hj':j<es[i'].length:=by rw[hrow]at hj;exact hj
       have hjs:j<sz:=by rw[r2 _ (List.getElem_mem hi2)]at hj';exact hj'
       rw[if_neg (by
        rcases Nat.lt_or_gt_of_ne e1 with hq | hq
        ·have:=cI (s:=sz) hq
         omega
        ·have:=cI (s:=sz) hq
         omega)]
       obtain⟨v,hv1,hv2⟩:=r3 i' hi2 j hj'
       exact⟨v,hv1,by simpa only[hrow]using hv2⟩
    obtain⟨cells',g1,g2,g3⟩:=uM ht sz L _ _ es' hr' hf
    refine⟨cells',?_,g2,by rw[g3,List.length_set]⟩
    simp only[List.map_cons,Instr.fill]
    rw[if_neg (by simp;omega)]
    exact g1
   ·cases hf
theorem WR.fresh (hw:WR P m h w) (w':World) (e:TypeId) (es:List (List AV)) (cs:Array Value) (cap:Nat) (hn:New w w') (hbk:Blk w' w.heap.size e cs) (hs:cs.size=cap*P.cellsOf e) (hc:es.length≤cap) (hmx:cap≤maxLen) (hl:∀ r∈es,r.length=P.cellsOf e)
  (hv:∀ i (hi:i<es.length) j (hj:j<es[i].length),∃ v,cs[i*P.cellsOf e+j]? =some v∧VR P m h es[i][j] v):
  ∃ m',Ext m h m' (h.fresh es.length)∧WR P m' (h.fresh es.length) w'∧VR P m' (h.fresh es.length) (.isl (some h.ids) e es) (.slice (some ⟨w.heap.size,0,none⟩) es.length cap):=by
 have hnoimm:∀ o,m.imm w.heap.size o=none:=fun o=>by
  rcases hi:m.imm w.heap.size o with _ | v
  ·rfl
  ·have:=hw.imm_lt hi
   omega
 have hx:Ext m h {m with imm:=fun g o=>if g=w.heap.size then(if o<es.length*P.cellsOf e then cs[o]? else none)else m.imm g o,tg:=fun k=>if k=h.ids then w.heap.size else m.tg k,tc:=fun k=>if k=h.ids then cap else m.tc k,te:=fun k=>if k=h.ids then e else m.te k} (h.fresh es.length):=by
  refine⟨rfl,Nat.le_refl _,by simp[AH.fresh],fun b hb=>⟨rfl,rfl,rfl⟩,fun g o v hi=> ?_,fun k hk=> ?_,fun _ _ h=>h⟩
  ·have:g≠w.heap.size:=fun e=>by rw[e,hnoimm]at hi;cases hi
   simpa[this]using hi
  ·have:k≠h.ids:=by omega
   simp[AH.fresh,this]
 have hw1:=hw.new hn
 have hle:es.length*P.cellsOf e≤cs.size:=by rw[hs];exact Nat.mul_le_mul_right _ hc
 refine⟨_,hx,?_,?_⟩
 ·refine⟨hw1.size,fun b x hb=>hw1.lt b x hb,fun b x hb=> ?_,fun b b' x x' h1 h2 he=>hw1.inj b b' x x' h1 h2 he,fun g o v hi=> ?_,fun b x hb o=> ?_,fun k hk=> ?_,fun k hk o ho'=> ?_,fun k hk b x hb=> ?_,fun k k' hk hk' he=> ?_,hw1.good,fun g x hj=> ?_⟩
  ·obtain⟨c2,h1,h2,h3,h4,h5⟩:=hw1.live b x hb
   refine⟨c2,h1,h2,h3,h4,fun i hi j hj=> ?_⟩
   obtain⟨v,h6,h7⟩:=h5 i hi j hj
   exact⟨v,h6,h7.ext hx⟩
  ·by_cases hg:g=w.heap.size
   ·subst hg
    simp only[if_true]at hi
    split at hi
    ·rw[hbk.cell]
     exact hi
    ·cases hi
   ·simp only[hg,if_false]at hi
    exact hw1.imm g o v hi
  ·have:=hw.below hb
   have hne:m.blk b≠w.heap.size:=by omega
   simp only[hne,if_false]
   exact hw1.sep b x hb o
  ·by_cases hk0:k=h.ids
   ·subst hk0
    simp only[if_true,AH.fresh]
    refine⟨cs.toList.take (es.length*P.cellsOf e),?_,.inr ⟨w.heap.size,cap,cs,rfl,hw.size,hbk,hc,hmx,hs,rfl⟩⟩
    simp
    omega
   ·have hk1:k<h.ids:=by simp[AH.fresh]at hk;omega
    simp only[hk0,if_false,AH.fresh]
    exact hw1.tip k hk1
  ·by_cases hk0:k=h.ids
   ·subst hk0
    simp only[if_true,AH.fresh]at ho' ⊢
    rw[if_neg (by omega)]
   ·have hk1:k<h.ids:=by simp[AH.fresh]at hk;omega
    simp only[hk0,if_false,AH.fresh]at ho' ⊢
    have:=(hw.tip_lt hk1).2
    rw[if_neg (by omega)]
    exact hw1.tfree k hk1 o ho'
  ·have hbl:=hw.below hb
   by_cases hk0:k=h.ids
   ·simp only[hk0,if_true]
    omega
   ·have hk1:k<h.ids:=by simp[AH.fresh]at hk;omega
    simp only[hk0,if_false]
    exact hw1.tblk k hk1 b x hb
  ·by_cases h1:k=h.ids<;>by_cases h2:k'=h.ids
   ·omega
   ·have:=(hw.tip_lt (k:=k') (by simp[AH.fresh]at hk';omega)).2
    simp[h1,h2]at he
    omega
   ·have:=(hw.tip_lt (k:=k) (by simp[AH.fresh]at hk;omega)).2
    simp[h1,h2]at he
    omega
   ·simp[h1,h2]at he
    exact hw.tinj k k' (by simp[AH.fresh]at hk;omega) (by simp[AH.fresh]at hk';omega) he
  ·have hlt:=hw.jk_lt hj
   obtain⟨a1,a2,a3,a4,a5⟩:=hw1.jk g x hj
   refine⟨a1,a2,a3,fun k hk=> ?_,fun o=> ?_⟩
   ·by_cases hk0:k=h.ids
    ·simp only[hk0,if_true]
     omega
    ·simp only[hk0,if_false]
     exact a4 k (by simp[AH.fresh]at hk;omega)
   ·simp only[show ¬ g=w.heap.size by omega,if_false]
    exact a5 o
 ·refine .isl (some h.ids) e es w.heap.size 0 cap (fun i j=>(cs[i*P.cellsOf e+j]?).getD undef) hl (fun i hi j hj=> ?_) (fun i hi j hj=> ?_) hc (fun k hk=> ?_)
  ·have:=cI (s:=P.cellsOf e) hi
   simp only[if_true,Nat.zero_add]
   rw[if_pos (by omega)]
   obtain⟨v,h1,_⟩:=hv i hi j (by rw[hl _ (List.getElem_mem hi)];exact hj)
   simp[h1]
  ·obtain⟨v,h1,h2⟩:=hv i hi j hj
   simp only[h1,Option.getD_some]
   exact h2.ext hx
  ·injection hk with hk
   subst hk
   simp[AH.fresh]
theorem EZ (len sz:Nat) (z:List AV) (v:Array Value) (hz:VRs P m h z v.toList) (hl:z.length=sz) (hp:0<sz):KB P m h sz (η len z) ((Array.range (len*sz)).map (v[· % v.size]!)):=by
 have hvs:v.size=sz:=by have:=hz.1;simp at this;omega
 refine⟨by simp,fun r hr=>by rw[(List.mem_replicate.1 hr).2];exact hl,fun i hi j hj=> ?_⟩
 simp only[List.getElem_replicate]at hj ⊢
 have hi':i<len:=by simpa using hi
 have:=cI (s:=sz) hi'
 obtain⟨u,u1,u2⟩:=hz.get? (List.getElem?_eq_getElem hj)
 refine⟨u,?_,u2⟩
 have hmod:(i*sz+j) % sz=j:=by
  rw[Nat.mul_comm,Nat.mul_add_mod]
  exact Nat.mod_eq_of_lt (by omega)
 rw[Array.getElem?_toList]at u1
 have hlt:i*sz+j<len*sz:=by omega
 simp only[Array.getElem?_map,hvs]
 rw[Array.getElem?_eq_getElem (by simpa using hlt)]
 simp only[Array.getElem_range,Option.map_some,hmod]
 rw[getElem!_def,u1]
theorem WR.lay (hw:WR P m h w) (w':World) (e:TypeId) (es:List (List AV)) (cs:Array Value) (cap:Nat) (hn:New w w') (hbk:Blk w' w.heap.size e cs) (hs:cs.size=cap*P.cellsOf e) (hc:es.length≤cap) (hl:∀ r∈es,r.length=P.cellsOf e)
  (hv:∀ i (hi:i<es.length) j (hj:j<es[i].length),∃ v,cs[i*P.cellsOf e+j]? =some v∧VR P m h es[i][j] v):
  ∃ m',Ext m h m' h∧WR P m' h w'∧VR P m' h (.isl none e es) (.slice (some ⟨w.heap.size,0,none⟩) es.length cap):=by
 have hnoimm:∀ o,m.imm w.heap.size o=none:=fun o=>by
  rcases hi:m.imm w.heap.size o with _ | v
  ·rfl
  ·have:=hw.imm_lt hi
   omega
 have hx:Ext m h {m with imm:=fun g o=>if g=w.heap.size then(if o<es.length*P.cellsOf e then cs[o]? else none)else m.imm g o} h:=by
  refine⟨rfl,Nat.le_refl _,Nat.le_refl _,fun b hb=>⟨rfl,rfl,rfl⟩,fun g o v hi=> ?_,fun k hk=>⟨rfl,Nat.le_refl _,fun _=>⟨rfl,rfl⟩⟩,fun _ _ h=>h⟩
  have:g≠w.heap.size:=fun e=>by rw[e,hnoimm]at hi;cases hi
  simpa[this]using hi
 have hw1:=hw.new hn
 have hle:es.length*P.cellsOf e≤cs.size:=by rw[hs];exact Nat.mul_le_mul_right _ hc
 refine⟨_,hx,?_,?_⟩
 ·refine⟨hw1.size,fun b x hb=>hw1.lt b x hb,fun b x hb=> ?_,fun b b' x x' h1 h2 he=>hw1.inj b b' x x' h1 h2 he,fun g o v hi=> ?_,fun b x hb o=> ?_,hw1.tip,fun k hk o ho'=> ?_,hw1.tblk,hw1.tinj,hw1.good,fun g x hj=> ?_⟩
  ·obtain⟨c2,h1,h2,h3,h4,h5⟩:=hw1.live b x hb
   refine⟨c2,h1,h2,h3,h4,fun i hi j hj=> ?_⟩
   obtain⟨v,h6,h7⟩:=h5 i hi j hj
   exact⟨v,h6,h7.ext hx⟩
  ·by_cases hg:g=w.heap.size
   ·subst hg
    simp only[if_true]at hi
    split at hi
    ·rw[hbk.cell]
     exact hi
    ·cases hi
   ·simp only[hg,if_false]at hi
    exact hw1.imm g o v hi
  ·have:=hw.below hb
   have hne:m.blk b≠w.heap.size:=by omega
   simp only[hne,if_false]
   exact hw1.sep b x hb o
  ·have:=(hw.tip_lt hk).2
   simp only[show ¬ m.tg k=w.heap.size by omega,if_false]
   exact hw1.tfree k hk o ho'
  ·have hlt:=hw.jk_lt hj
   obtain⟨a1,a2,a3,a4,a5⟩:=hw1.jk g x hj
   refine⟨a1,a2,a3,a4,fun o=> ?_⟩
   simp only[show ¬ g=w.heap.size by omega,if_false]
   exact a5 o
 ·refine .isl none e es w.heap.size 0 cap (fun i j=>(cs[i*P.cellsOf e+j]?).getD undef) hl (fun i hi j hj=> ?_) (fun i hi j hj=> ?_) hc (fun k hk=>by cases hk)
  ·have:=cI (s:=P.cellsOf e) hi
   simp only[if_true,Nat.zero_add]
   rw[if_pos (by omega)]
   obtain⟨v,h1,_⟩:=hv i hi j (by rw[hl _ (List.getElem_mem hi)];exact hj)
   simp[h1]
  ·obtain⟨v,h1,h2⟩:=hv i hi j hj
   simp only[h1,Option.getD_some]
   exact h2.ext hx
theorem zB (hT:pO P) (hw:WR P m h w) (ht:TR P m h t a.tmps) (ty:TypeId) (len:Nat) (parts:Array (Nat×Operand)) (ho:o.op= .buildSlice ty len parts) {e:TypeId} (he:d8 P ty=some e) {z:List AV} (hz:eH P e=some z)
  {es:List (List AV)} (hv:jT (szA P e) (η len z) (parts.toList.map fun q=>(q.1,evA t q.2))=some es) (hsm:len*szA P e≤16777216):
  OpR P m h a w o (.msl h.n 0 len e) (h.push es)∧OpR P m h a w o (.isl (some h.ids) e es) (h.fresh len)∧OpR P m h a w o (.isl none e es) h:=by
 have hes:=eK he
 have hpos:=iv hT he
 obtain⟨i,v,hi,hvz,hl,hs,hr,hrun⟩:=eZ (m:=m) (h:=h) (w:=w) hT hz
 have hi1:i.size=P.cellsOf e:=by simp[Program.cellsOf,hi]
 have hz0:=EZ (P:=P) (m:=m) (h:=h) len (P.cellsOf e) z v.cells hr hl hpos
 obtain⟨cells,g1,g2,g3⟩:=uM ht (P.cellsOf e) parts.toList _ _ es hz0 hv
 simp only[List.length_replicate]at g3
 have hparts:(parts.map fun(i,x)=>(i,a.eval x)).toList=parts.toList.map fun q=>(q.1,a.eval q.2):=by simp
 have hb:(Instr.buildSlice ty len (parts.map fun(i,x)=>(i,a.eval x))).run P w= .ok (.slice (some ⟨w.heap.size,0,none⟩) len len) (w.alloc (.cells cells e)):=by
  by_cases hlen:len=0
  ·subst hlen
   have hr0:Array.range 0= #[]:=rfl
   have g1':Instr.fill (fun i=>some (i*P.cellsOf e,P.cellsOf e)) #[] (parts.toList.map fun q=>(q.1,a.eval q.2))=some cells:=by
    rw[Nat.zero_mul,hr0,Array.map_empty]at g1
    exact g1
   simp only[Instr.buildSlice,Sem.run_bind,run_underlying hes,Result.andThen_ok,sizeOf,typeInfo,run_program,hi,Sem.run_pure,hi1,hparts,Nat.zero_mul,hr0,Nat.not_lt_zero,gt_iff_lt,if_false,if_true]
   simp[Array.map_empty,g1',newRow]
  ·have hmul:0<len*P.cellsOf e:=Nat.mul_pos (by omega) hpos
   have hb0:=run_buildSlice (P:=P) w ty e len (parts.map fun(i,x)=>(i,a.eval x)) cells i v hes hi hvz (by rw[hi1];unfold szA at hsm;omega) (by rw[hi1];omega) (by
    rw[hi1,hparts]
    exact g1)
   rw[hb0]
 have hrun2:(execOp a.eval o).run P w= .ok (.value (.slice (some ⟨w.heap.size,0,none⟩) len len)) (w.alloc (.cells cells e)):=by
  simp only[execOp,ho,Sem.run_bind,hb,Result.andThen_ok,Sem.run_pure]
 obtain⟨g21,g22,g23⟩:=g2
 have hmx:len≤maxLen:=by
  have:len*1≤len*P.cellsOf e:=Nat.mul_le_mul_left _ hpos
  unfold maxLen szA at*
  omega
 refine⟨?_,?_,?_⟩
 ·obtain⟨m',h1,h2,h3,h4,h5⟩:=hw.push (w.alloc (.cells cells e)) e es cells ((eN.refl _ w).alloc _) (Blk.new w _ _) (Nat.le_of_eq g21.symm) g22 g23
  refine⟨m',_,_,.inl hrun2,h1,h2,?_,(Below.refl _ _).alloc hw.size _⟩
  have:=VR.msl (P:=P) (m:=m') (h:=h.push es) h.n 0 len e len (by simp[AH.push]) h4 (by rw[h5,g21,g3,Nat.zero_add]) (Nat.le_refl _) hmx
  rw[h3]at this
  simpa using this
 ·obtain⟨m',h1,h2,h3⟩:=hw.fresh (w.alloc (.cells cells e)) e es cells len ((eN.refl _ w).alloc _) (Blk.new w _ _) (by rw[g21,g3]) (by rw[g3];exact Nat.le_refl _) hmx g22 g23
  rw[g3]at h1 h2 h3
  exact⟨m',_,_,.inl hrun2,h1,h2,h3,(Below.refl _ _).alloc hw.size _⟩
 ·obtain⟨m',h1,h2,h3⟩:=hw.lay (w.alloc (.cells cells e)) e es cells len ((eN.refl _ w).alloc _) (Blk.new w _ _) (by rw[g21,g3]) (by rw[g3];exact Nat.le_refl _) g22 g23
  rw[g3]at h3
  exact⟨m',_,_,.inl hrun2,h1,h2,h3,(Below.refl _ _).alloc hw.size _⟩
theorem CZ (hT:pO P) (hw:WR P m h w) (ht:TR P m h t a.tmps) (ty:TypeId) (l c:Operand) (ho:o.op= .makeSlice ty l c) {e:TypeId} (he:d8 P ty=some e) {z:List AV} (hz:eH P e=some z) {k1 k2:IntKind} {n:Int}
  (hl:evA t l= .int k1 n) (hc:evA t c= .int k2 n) (h0:0≤n) (hsm:n≤100000):OpR P m h a w o (.msl h.n 0 n.toNat e) (h.push (η n.toNat z)):=by
 have hes:=eK he
 have hpos:=iv hT he
 obtain⟨i,v,hi,hvz,hl',hs,hr,hrun⟩:=eZ (m:=m) (h:=h) (w:=w) hT hz
 have hi1:i.size=P.cellsOf e:=by simp[Program.cellsOf,hi]
 have v1:=aM ht l
 have v2:=aM ht c
 rw[hl]at v1
 rw[hc]at v2
 obtain⟨u1,hu1⟩:∃ u,a.eval l=u:=⟨_,rfl⟩
 obtain⟨u2,hu2⟩:∃ u,a.eval c=u:=⟨_,rfl⟩
 rw[hu1]at v1
 rw[hu2]at v2
 cases v1
 cases v2
 have hby:=hT.small e i (KU hz) hi
 have hb:(i.bytes:Int)*n≤281474976710656:=by
  have h1:(i.bytes:Int)*n≤100000*100000:=Int.mul_le_mul (by omega) hsm h0 (by omega)
  omega
 have hz0:=EZ (P:=P) (m:=m) (h:=h) n.toNat (P.cellsOf e) z v.cells hr hl' hpos
 obtain⟨r1,r2,r3⟩:=hz0
 have hmk:=run_make (P:=P) w ty e i v hes hi hvz k1 k2 n n h0 (Int.le_refl _) hb (by omega)
 have e1:madeCells v.cells (n.toNat*i.size)=(Array.range (n.toNat*P.cellsOf e)).map (v.cells[· % v.cells.size]!):=by rw[hi1];rfl
 rw[e1]at hmk
 obtain⟨m',h1,h2,h3,h4,h5⟩:=hw.push (w.alloc (.cells ((Array.range (n.toNat*P.cellsOf e)).map (v.cells[· % v.cells.size]!)) e)) e (η n.toNat z) _ ((eN.refl _ w).alloc _) (Blk.new w _ _) (Nat.le_of_eq r1.symm) r2 r3
 refine⟨m',_,.slice (some ⟨w.heap.size,0,none⟩) n.toNat n.toNat,.inl ?_,h1,h2,?_,(Below.refl _ _).alloc hw.size _⟩
 ·simp only[execOp,ho,hu1,hu2,Sem.run_bind,hmk,Result.andThen_ok,Sem.run_pure]
 ·have:=VR.msl (P:=P) (m:=m') (h:=h.push (η n.toNat z)) h.n 0 n.toNat e n.toNat (by simp[AH.push]) h4 (by rw[h5,r1,List.length_replicate,Nat.zero_add]) (Nat.le_refl _) (by unfold maxLen;omega)
  rw[h3]at this
  simpa using this
end
open Go Go.RowKit
section
variable {P:Program} {m m':Mm} {h h':AH} {w w':World} {t:List AV} {a:Act} {o:Oper}
theorem oD (base:Nat) (t ty e:TypeId) (i:TypeInfo) (z:Value) (size bytes:Nat) (ht:P.underlying t=some (.slice e)) (hi:P.info? e=some i) (hz:i.zero=some z)
  (hsize:i.size=size) (hby:i.bytes=bytes) (hzs:z.cells.size=size) (hsz:0<size)
  (v:Value) (n:Nat) (xs:List Value) (hown:w.ownsRow base e size v n xs)
  (a:Addr) (m c:Nat) (hm0:0<m) (news:List Value) (hl:news.length=m*size) (hnews:∀ j u,news[j]? =some u→w.cell? (a.add j)=some u) (h1:∀ u∈news,u.oneCell'=true)
  (h63:n+m≤maxLen) (hbytes:(n+m)*bytes≤140737488355328) (hbase:base≤w.heap.size):
  ∃ g cap w',(Builtin.append_ #[t,t] ty #[v,.slice (some a) m c]).run P w= .ok (.slice (some ⟨g,0,none⟩) (n+m) cap) w'∧w'.ownsRow base e size (.slice (some ⟨g,0,none⟩) (n+m) cap) (n+m) (xs++news)∧
    ((v.ownBlock=some g∧eN (fun k=>k=g) w w'∧∃ k,v= .slice (some ⟨g,0,none⟩) n k)∨(g=w.heap.size∧New w w')):=by
 subst hsize
 subst hby
 have hsmall:n+m≤9223372036854775807:=by simp only[maxLen]at h63;omega
 have hlen:(xs++news).length=(n+m)*i.size:=by rw[List.length_append,hown.1,hl,Nat.add_mul]
 have grown:∀ (old:Nat),old<n+m→
   (w.drew.alloc (.cells (xs.toArray++news.toArray++Builtin.zeroCells z.cells (grownCap w (n+m) old e - (n+m))) e)).ownsRow base e i.size
    (.slice (some ⟨w.heap.size,0,none⟩) (n+m) (grownCap w (n+m) old e)) (n+m) (xs++news)∧
   New w (w.drew.alloc (.cells (xs.toArray++news.toArray++Builtin.zeroCells z.cells (grownCap w (n+m) old e - (n+m))) e)):=by
  intro old ho
  have hge:=grownCap_ge w (n+m) old e
  have hcm:grownCap w (n+m) old e≤maxLen:=grownCap_le_maxLen w (n+m) old e h63
  refine⟨⟨hlen,.inr ⟨w.heap.size,_,_,rfl,hbase,heap_alloc_new w.drew _,hge,hcm,?_,?_⟩⟩,⟨rfl,rfl,rfl,by simp,fun k hk _=>heap_alloc_old w.drew _ hk⟩⟩
  ·simp only[Array.size_append,List.size_toArray,size_zeroCells,hzs,hown.1,hl,←Nat.add_mul]
   congr 1
   omega
  ·simp only[Array.toList_append,List.append_assoc]
   rw[←List.append_assoc,←hlen]
   exact List.take_left
 rcases hown.2 with⟨rfl,rfl⟩ | ⟨g,cap,cur,rfl,hbg,hg,hnc,hcm,hcs,htake⟩
 ·have hx:xs=[]:=List.eq_nil_of_length_eq_zero (by simpa using hown.1)
  subst hx
  have hr:=run_append_nil (P:=P) w t ty e i z ht hi hz a m c news hl hnews (by omega) (by omega) (by have hb:=hbytes;simp only[Nat.zero_add]at hb;omega)
  have hgr:=grown 0 (by omega)
  simp only[Nat.zero_add,List.nil_append,Array.empty_append]at hgr ⊢
  exact⟨_,_,_,hr,hgr.1,.inr ⟨rfl,hgr.2⟩⟩
 ·by_cases hroom:n+m≤cap
  ·have hfit:n*i.size+news.length≤cur.size:=by rw[hl,hcs,←Nat.add_mul];exact Nat.mul_le_mul_right _ hroom
   have hr:=run_append_room (P:=P) w t ty e i ht hi g n cap cur hg a m c news hl hnews h1 hroom hfit
   refine⟨_,_,_,hr,⟨hlen,.inr ⟨g,cap,_,rfl,hbg,setRow_heap w g cur _ e _ hg,hroom,hcm,?_,?_⟩⟩,.inl ⟨rfl,⟨rfl,rfl,rfl,by simp,fun k _ hk=>setRow_other w g k _ hk⟩,⟨_,rfl⟩⟩⟩
   ·simp only[List.size_toArray,List.length_append,List.length_take,List.length_drop,Array.length_toList]
    omega
   ·rw[htake,←hlen]
    exact List.take_left
  ·have holds:∀ j u,xs[j]? =some u→w.cell? ((⟨g,0,none⟩:Addr).add j)=some u:=hown.cells (g:=g) rfl
   have hr:=run_append_grow (P:=P) w t ty e i z ht hi hz ⟨g,0,none⟩ n cap xs hown.1 holds a m c news hl hnews (by omega) (by omega) (growslice_fits (by omega) hbytes)
   have hgr:=grown cap (by omega)
   exact⟨_,_,_,hr,hgr.1,.inr ⟨rfl,hgr.2⟩⟩
def ir (P:Program) (m:Mm) (h:AH) (sz:Nat) (es:List (List AV)) (l:List Value):Prop:=
 l.length=es.length*sz∧(∀ r∈es,r.length=sz)∧∀ i (hi:i<es.length) j (hj:j<es[i].length),∃ v,l[i*sz+j]? =some v∧VR P m h es[i][j] v
theorem ir.one {sz:Nat} {es:List (List AV)} {l:List Value} (hr:ir P m h sz es l) (hp:0<sz) (h1:es.all (·.all AV.one)=true):∀ u∈l,u.oneCell'=true:=by
 intro u hu
 obtain⟨k,hk,rfl⟩:=List.getElem_of_mem hu
 obtain⟨r1,r2,r3⟩:=hr
 have hi:k / sz<es.length:=Nat.div_lt_of_lt_mul (by rw[Nat.mul_comm,←r1];exact hk)
 have hj:k % sz<es[k / sz].length:=by rw[r2 _ (List.getElem_mem hi)];exact Nat.mod_lt _ hp
 obtain⟨v,h2,h3⟩:=r3 _ hi _ hj
 have e:k / sz*sz+k % sz=k:=by rw[Nat.mul_comm];exact Nat.div_add_mod k sz
 rw[e,List.getElem?_eq_getElem hk]at h2
 injection h2 with h2
 rw[h2]
 simp only[List.all_eq_true]at h1
 exact h3.one (h1 _ (List.getElem_mem hi) _ (List.getElem_mem hj))
theorem um (hw:WR P m h w) {e:TypeId} {x:AV} {u:Value} (hx:VR P m h x u) (hnn:x≠.nils) {new:List (List AV)} (hn:cE h e x=some new):
  ∃ ad n c news,u= .slice (some ad) n c∧n=new.length∧ir P m h (P.cellsOf e) new news∧∀ j v,news[j]? =some v→w.cell? (ad.add j)=some v:=by
 cases hx with
 | nils=>exact absurd rfl hnn
 | isl0 e' a' cap=>
   simp only[cE]at hn
   split at hn
   ·injection hn with hn
    subst hn
    exact⟨a',0,cap,[],rfl,rfl,⟨by simp,by simp,fun i hi=>by simp at hi⟩,fun j v hj=>by simp at hj⟩
   ·cases hn
 | isl id e' es g o' cap F hle hi' hvv hcap htt=>
   simp only[cE]at hn
   split at hn
   ·rename_i he
    subst he
    injection hn with hn
    subst hn
    have hpz:0<P.cellsOf e'∨P.cellsOf e'=0:=by omega
    refine⟨⟨g,o',none⟩,es.length,cap,(List.range (es.length*P.cellsOf e')).map fun k=>F (k / P.cellsOf e') (k % P.cellsOf e'),rfl,rfl,⟨by simp,hle,fun i hi j hj=> ?_⟩,fun j v hj=> ?_⟩
    ·have hjs:j<P.cellsOf e':=by rw[←hle _ (List.getElem_mem hi)];exact hj
     have:=cI (s:=P.cellsOf e') hi
     have hd:(i*P.cellsOf e'+j) / P.cellsOf e'=i:=by
      rw[Nat.mul_comm,Nat.mul_add_div (by omega),Nat.div_eq_of_lt hjs,Nat.add_zero]
     have hm:(i*P.cellsOf e'+j) % P.cellsOf e'=j:=by
      rw[Nat.mul_comm,Nat.mul_add_mod]
      exact Nat.mod_eq_of_lt hjs
     refine⟨F i j,?_,hvv i hi j hj⟩
     rw[List.getElem?_map,List.getElem?_range (by omega)]
     simp only[Option.map_some,hd,hm]
    ·simp only[List.getElem?_map,Option.map_eq_some_iff]at hj
     obtain⟨k,hk,rfl⟩:=hj
     obtain⟨hlt,hkk⟩:=List.getElem?_eq_some_iff.1 hk
     simp at hlt hkk
     subst hkk
     have hp:0<P.cellsOf e':=by
      rcases hpz with h1 | h1
      ·exact h1
      ·rw[h1]at hlt
       omega
     have hd:j / P.cellsOf e'<es.length:=Nat.div_lt_of_lt_mul (by rw[Nat.mul_comm];exact hlt)
     have hm:=Nat.mod_lt j hp
     have:=hw.imm _ _ _ (hi' _ hd _ hm)
     rw[Addr.add_lit]
     have e2:j / P.cellsOf e'*P.cellsOf e'+j % P.cellsOf e'=j:=by rw[Nat.mul_comm];exact Nat.div_add_mod j _
     rwa [e2]at this
   ·cases hn
 | msl b o' n' e' cap hb he' hcap hnn hmx=>
   simp only[cE]at hn
   split at hn
   ·rename_i he
    subst he
    obtain⟨es,hes,hn⟩:=Option.bind_eq_some_iff.1 hn
    split at hn
    ·rename_i hle
     injection hn with hn
     subst hn
     obtain⟨cs,h1,h2,h3,h4,h5⟩:=hw.live b es hes
     rw[he']at h1 h3 h4 h5
     have hm:(o'+n')*P.cellsOf e'≤es.length*P.cellsOf e':=Nat.mul_le_mul_right _ hle
     rw[Nat.add_mul]at hm
     have hlen:((es.drop o').take n').length=n':=by simp;omega
     refine⟨_,n',cap,(cs.toList.drop (o'*P.cellsOf e')).take (n'*P.cellsOf e'),rfl,hlen.symm,⟨by rw[hlen];simp;omega,fun r hr=>h3 r (List.mem_of_mem_drop (List.mem_of_mem_take hr)),fun i hi j hj=> ?_⟩,fun j v hj=> ?_⟩
     ·have hi1:i<n'∧o'+i<es.length:=by simp at hi;omega
      have e1:((es.drop o').take n')[i]=es[o'+i]'hi1.2:=by simp
      have hj':j<es[o'+i].length:=by rw[←e1];exact hj
      have hjs:j<P.cellsOf e':=by rw[←h3 _ (List.getElem_mem hi1.2)];exact hj'
      obtain⟨v,v1,v2⟩:=h5 (o'+i) hi1.2 j hj'
      have hle2:=cI (s:=P.cellsOf e') hi1.1
      refine⟨v,?_,by simpa using v2⟩
      rw[List.getElem?_take_of_lt (by omega),List.getElem?_drop,Array.getElem?_toList]
      rw[show o'*P.cellsOf e'+(i*P.cellsOf e'+j)=(o'+i)*P.cellsOf e'+j by rw[Nat.add_mul];omega]
      exact v1
     ·have hlt:j<n'*P.cellsOf e':=by
       have:=(List.getElem?_eq_some_iff.1 hj).1
       simp at this
       omega
      rw[List.getElem?_take_of_lt hlt,List.getElem?_drop,Array.getElem?_toList]at hj
      rw[Addr.add_lit,h1.cell]
      exact hj
    ·cases hn
   ·cases hn
 | _=>simp[cE]at hn
theorem ij (ty:TypeId) (tys:List TypeId) (x y:Operand) (ho:o.op= .call {callee:= .builtin .append,args:= #[x,y],argTypes:=(ty::tys).toArray}) {u v r:Value} (hu:a.eval x=u) (hv:a.eval y=v)
  (hr:(Builtin.append_ (ty::tys).toArray o.type #[u,v]).run P w= .ok r w'):(execOp a.eval o).run P w= .ok (.value r) w':=by
 simp only[execOp,ho,resolve,invoke,builtin,Sem.run_bind,Sem.run_pure,Result.andThen_ok,List.map_toArray,List.map_cons,List.map_nil,hu,hv,hr]
theorem xQ (ty e:TypeId) (tys:List TypeId) (hty:P.underlying ty=some (.slice e)) (hi:P.info? e≠none) (htys:tys=[ty]) (rt:TypeId) (A:Option Addr) (n c:Nat) (hnc:n≤c):
  (Builtin.append_ (ty::tys).toArray rt #[.slice A n c,.slice none 0 0]).run P w= .ok (.slice A n c) w:=by
 subst htys
 obtain⟨i,hi⟩:=Option.ne_none_iff_exists'.1 hi
 cases A<;>simp[Builtin.append_,run_underlying hty,sizeOf,typeInfo,hi,Builtin.lenOf,Builtin.firstCells,hnc,storeCells]
theorem uW (ty e:TypeId) (tys:List TypeId) (hty:P.underlying ty=some (.slice e)) (hi:P.info? e≠none) (htys:tys=[ty]) (rt:TypeId) (A:Option Addr) (n c:Nat) (hnc:n≤c) (ad:Addr) (c2:Nat):
  (Builtin.append_ (ty::tys).toArray rt #[.slice A n c,.slice (some ad) 0 c2]).run P w= .ok (.slice A n c) w:=by
 subst htys
 obtain⟨i,hi⟩:=Option.ne_none_iff_exists'.1 hi
 cases A<;>simp[Builtin.append_,run_underlying hty,sizeOf,typeInfo,hi,Builtin.lenOf,Builtin.firstCells,hnc,storeCells,loadCells,loadCellsFrom]
theorem Nb (hw:WR P m h w) {e:TypeId} {es:List (List AV)} {xs:List Value} {g cap:Nat} (hown:w.ownsRow m.base e (P.cellsOf e) (.slice (some ⟨g,0,none⟩) es.length cap) es.length xs) (hl:∀ r∈es,r.length=P.cellsOf e)
  (hv:∀ i (hi:i<es.length) j (hj:j<es[i].length),∃ v,w.cell? ⟨g,i*P.cellsOf e+j,none⟩=some v∧VR P m h es[i][j] v):ir P m h (P.cellsOf e) es xs:=by
 refine⟨hown.1,hl,fun i hi j hj=> ?_⟩
 have hjs:j<P.cellsOf e:=by rw[←hl _ (List.getElem_mem hi)];exact hj
 have:=cI (s:=P.cellsOf e) hi
 have hlt:i*P.cellsOf e+j<xs.length:=by rw[hown.1];omega
 obtain⟨v,h1,h2⟩:=hv i hi j hj
 have h3:=hown.cells (g:=g) rfl (i*P.cellsOf e+j) xs[i*P.cellsOf e+j] (List.getElem?_eq_getElem hlt)
 rw[Addr.add_lit,Nat.zero_add,h1]at h3
 injection h3 with h3
 exact⟨v,by rw[List.getElem?_eq_getElem hlt,h3],h2⟩
theorem ir.append {sz:Nat} {es fs:List (List AV)} {l k:List Value} (h1:ir P m h sz es l) (h2:ir P m h sz fs k):ir P m h sz (es++fs) (l++k):=by
 obtain⟨a1,a2,a3⟩:=h1
 obtain⟨b1,b2,b3⟩:=h2
 refine⟨by simp[a1,b1,Nat.add_mul],fun r hr=> ?_,fun i hi j hj=> ?_⟩
 ·rcases List.mem_append.1 hr with h | h
  ·exact a2 r h
  ·exact b2 r h
 ·by_cases hlt:i<es.length
  ·have e1:(es++fs)[i]=es[i]:=List.getElem_append_left hlt
   have hj':j<es[i].length:=by rw[e1]at hj;exact hj
   have hjs:j<sz:=by rw[←a2 _ (List.getElem_mem hlt)];exact hj'
   have:=cI (s:=sz) hlt
   obtain⟨v,v1,v2⟩:=a3 i hlt j hj'
   exact⟨v,by rw[List.getElem?_append_left (by omega)];exact v1,by simpa only[e1]using v2⟩
  ·have hi2:i - es.length<fs.length:=by simp at hi;omega
   have e1:(es++fs)[i]=fs[i - es.length]:=List.getElem_append_right (by omega)
   have hj':j<fs[i - es.length].length:=by rw[e1]at hj;exact hj
   have hle:es.length*sz≤i*sz:=Nat.mul_le_mul_right _ (by omega)
   obtain⟨v,v1,v2⟩:=b3 _ hi2 j hj'
   refine⟨v,?_,by simpa only[e1]using v2⟩
   rw[List.getElem?_append_right (by omega),←v1]
   congr 1
   rw[Nat.sub_mul]
   omega
theorem ir.take {sz:Nat} {es:List (List AV)} {l:List Value} (h1:ir P m h sz es l) (n:Nat) (hn:n≤es.length):ir P m h sz (es.take n) (l.take (n*sz)):=by
 obtain⟨a1,a2,a3⟩:=h1
 have hle:n*sz≤es.length*sz:=Nat.mul_le_mul_right _ hn
 refine⟨by simp[a1,Nat.min_eq_left hle,Nat.min_eq_left hn],fun r hr=>a2 r (List.mem_of_mem_take hr),fun i hi j hj=> ?_⟩
 have hi':i<n∧i<es.length:=by simp at hi;omega
 have e1:(es.take n)[i]=es[i]'hi'.2:=by simp
 have hj':j<(es[i]'hi'.2).length:=by rw[e1]at hj;exact hj
 have hjs:j<sz:=by rw[←a2 _ (List.getElem_mem hi'.2)];exact hj'
 have:=cI (s:=sz) hi'.1
 obtain⟨v,v1,v2⟩:=a3 i hi'.2 j hj'
 exact⟨v,by rw[List.getElem?_take_of_lt (by omega)];exact v1,by simpa only[e1]using v2⟩
end
open Go Go.RowKit
section
variable {P:Program} {m m':Mm} {h h':AH} {w w':World} {t:List AV} {a:Act} {o:Oper}
theorem WR.grown (hw:WR P m h w) {k:Nat} (hk:k<h.ids) {xs news:List Value} {n mm g cap:Nat} (hn:n=h.hw k) (hm0:0<mm)
  (hold:w.ownsRow m.base (m.te k) (P.cellsOf (m.te k)) (.slice (some ⟨m.tg k,0,none⟩) n (m.tc k)) n xs) (hsz:0<P.cellsOf (m.te k))
  (hown:w'.ownsRow m.base (m.te k) (P.cellsOf (m.te k)) (.slice (some ⟨g,0,none⟩) (n+mm) cap) (n+mm) (xs++news))
  (hg:(g=m.tg k∧eN (fun q=>q=g) w w')∨(g=w.heap.size∧New w w')) (es:List (List AV)) (hrows:ir P m h (P.cellsOf (m.te k)) es (xs++news)) (hes:es.length=n+mm):
  ∃ m',Ext m h m' (h.grow k (n+mm))∧WR P m' (h.grow k (n+mm)) w'∧VR P m' (h.grow k (n+mm)) (.isl (some k) (m.te k) es) (.slice (some ⟨g,0,none⟩) (n+mm) cap)∧Below m.base w w':=by
 subst hn
 generalize hE:m.te k=e at*
 generalize hS:P.cellsOf e=S at*
 have htl:=hw.tip_lt hk
 have hcells:∀ o v,(xs++news)[o]? =some v→w'.cell? ⟨g,o,none⟩=some v:=by
  intro o v ho
  have:=hown.cells (g:=g) rfl o v ho
  rwa [Addr.add_lit,Nat.zero_add]at this
 have hocells:∀ o v,xs[o]? =some v→w.cell? ⟨m.tg k,o,none⟩=some v:=by
  intro o v ho
  have:=hold.cells (g:=m.tg k) rfl o v ho
  rwa [Addr.add_lit,Nat.zero_add]at this
 have hxl:xs.length=h.hw k*S:=hold.1
 have hol:(xs++news).length=(h.hw k+mm)*S:=hown.1
 have hlt:h.hw k*S<(h.hw k+mm)*S:=by
  rw[Nat.add_mul]
  have:=Nat.mul_pos hm0 hsz
  omega
 -- cells that never turned stay
 have himm:∀ g' o v,m.imm g' o=some v→(if g'=g∧o<(h.hw k+mm)*S then(xs++news)[o]? else m.imm g' o)=some v∧w'.cell? ⟨g',o,none⟩=some v:=by
  intro g' o v hi
  have hc:=hw.imm _ _ _ hi
  by_cases e1:g'=g
  ·subst e1
   rcases hg with⟨hgt,hO⟩ | ⟨hgt,hN⟩
   ·have ho:o<h.hw k*S:=by
     rcases Nat.lt_or_ge o (h.hw k*S)with h1 | h1
     ·exact h1
     ·have:=hw.tfree k hk o (by rw[hE,hS];exact h1)
      rw[←hgt,hi]at this
      cases this
    have hx:xs[o]? =some v:=by
     have h1:=List.getElem?_eq_getElem (l:=xs) (i:=o) (by omega)
     have h2:=hocells o _ h1
     rw[←hgt,hc]at h2
     injection h2 with h2
     rw[h1,h2]
    have hx2:(xs++news)[o]? =some v:=by rw[List.getElem?_append_left (by omega)];exact hx
    exact⟨by rw[if_pos ⟨rfl,by omega⟩];exact hx2,hcells o v hx2⟩
   ·have:=hw.imm_lt hi
    omega
  ·refine⟨by rw[if_neg (fun hh=>e1 hh.1)];exact hi,?_⟩
   rcases hg with⟨hgt,hO⟩ | ⟨hgt,hN⟩
   ·rw[World.cell?_of_block (w:=w) (hO.block _ (hw.imm_lt hi) e1)]
    exact hc
   ·rw[World.cell?_of_block (w:=w) (hN.block _ (hw.imm_lt hi) id)]
    exact hc
 have hx:Ext m h {m with imm:=fun g' o=>if g'=g∧o<(h.hw k+mm)*S then(xs++news)[o]? else m.imm g' o,tg:=fun q=>if q=k then g else m.tg q,tc:=fun q=>if q=k then cap else m.tc q} (h.grow k (h.hw k+mm)):=by
  refine⟨rfl,Nat.le_refl _,Nat.le_refl _,fun b hb=>⟨rfl,rfl,rfl⟩,fun g' o v hi=>(himm g' o v hi).1,fun q hq=>⟨rfl,?_,fun he=> ?_⟩,fun _ _ h=>h⟩
  ·by_cases e1:q=k
   ·subst e1
    simp[AH.grow]
   ·simp[AH.grow,e1]
  ·by_cases e1:q=k
   ·subst e1
    simp[AH.grow]at he
    omega
   ·simp[e1]
 have hsize:w.heap.size≤w'.heap.size:=by
  rcases hg with⟨_,hO⟩ | ⟨_,hN⟩
  ·exact hO.size
  ·exact hN.size
 have hoth:∀ q,q<w.heap.size→q≠m.tg k→w'.heap[q]? =w.heap[q]? :=by
  intro q hq hne
  rcases hg with⟨hgt,hO⟩ | ⟨hgt,hN⟩
  ·exact hO.block q hq (fun e=>hne (e.trans hgt))
  ·exact hN.block q hq id
 have hgb:m.base≤g:=by
  rcases hg with⟨hgt,_⟩ | ⟨hgt,_⟩
  ·rw[hgt];exact htl.1
  ·rw[hgt];exact hw.size
 have hfresh:∀ b x,h.cell b=some x→m.blk b≠g:=by
  intro b x hb
  rcases hg with⟨hgt,_⟩ | ⟨hgt,_⟩
  ·rw[hgt];exact hw.tblk k hk b x hb
  ·have:=hw.below hb
   omega
 refine⟨_,hx,?_,?_,?_⟩
 ·refine⟨Nat.le_trans hw.size hsize,hw.lt,fun b x hb=> ?_,hw.inj,fun g' o v hi=> ?_,fun b x hb o=> ?_,fun q hq=> ?_,fun q hq o ho=> ?_,fun q hq b x hb=> ?_,fun q q' hq hq' he=> ?_,hw.good.keep hw.size fun g' hg' hlt=>hoth g' hg' (fun e=>by have:=htl.1;omega),fun j x hj=> ?_⟩
  ·obtain⟨cs,c1,c2,c3,c4,c5⟩:=hw.live b x hb
   refine⟨cs,(hoth _ c1.lt (hw.tblk k hk b x hb)).trans c1,c2,c3,c4,fun i hi j hj=> ?_⟩
   obtain⟨v,v1,v2⟩:=c5 i hi j hj
   exact⟨v,v1,v2.ext hx⟩
  ·simp only at hi
   split at hi
   ·rename_i hc
    rw[hc.1]
    exact hcells o v hi
   ·exact(himm g' o v hi).2
  ·simp only
   rw[if_neg (fun hh=>hfresh b x hb hh.1)]
   exact hw.sep b x hb o
  ·by_cases e1:q=k
   ·subst e1
    refine⟨xs++news,?_⟩
    simp only[if_true,AH.grow,hE,hS]
    exact hown
   ·obtain⟨ys,hy⟩:=hw.tip q hq
    refine⟨ys,?_⟩
    simp only[e1,if_false,AH.grow]
    have hne:m.tg q≠m.tg k:=fun e=>e1 (hw.tinj q k hq hk e)
    refine⟨hy.1,?_⟩
    rcases hy.2 with h1 | ⟨g2,cap2,cur,e2,hg2,hh2,r⟩
    ·exact .inl h1
    ·refine .inr ⟨g2,cap2,cur,e2,hg2,?_,r⟩
     simp at e2
     obtain⟨rfl,rfl⟩:=e2
     exact(hoth _ (hw.tip_lt hq).2 hne).trans hh2
  ·by_cases e1:q=k
   ·subst e1
    simp only[if_true,AH.grow,hE,hS]at ho ⊢
    rw[if_neg (by omega)]
    rcases hg with⟨hgt,_⟩ | ⟨hgt,_⟩
    ·rw[hgt]
     exact hw.tfree q hk o (by rw[hE,hS];omega)
    ·rcases hi:m.imm g o with _ | v
     ·rfl
     ·have:=hw.imm_lt hi
      omega
   ·simp only[e1,if_false,AH.grow]at ho ⊢
    have hne:m.tg q≠g:=by
     rcases hg with⟨hgt,_⟩ | ⟨hgt,_⟩
     ·rw[hgt];exact fun e=>e1 (hw.tinj q k hq hk e)
     ·have:=(hw.tip_lt hq).2
      omega
    rw[if_neg (fun hh=>hne hh.1)]
    exact hw.tfree q hq o ho
  ·by_cases e1:q=k
   ·simp only[e1,if_true]
    exact hfresh b x hb
   ·simp only[e1,if_false]
    exact hw.tblk q hq b x hb
  ·have hne:∀ q,q<h.ids→q≠k→m.tg q≠g:=by
    intro q hq e1
    rcases hg with⟨hgt,_⟩ | ⟨hgt,_⟩
    ·rw[hgt];exact fun e=>e1 (hw.tinj q k hq hk e)
    ·have:=(hw.tip_lt hq).2
     omega
   by_cases h1:q=k<;>by_cases h2:q'=k
   ·omega
   ·simp[h1,h2]at he
    exact absurd he.symm (hne q' hq' h2)
   ·simp[h1,h2]at he
    exact absurd he (hne q hq h1)
   ·simp[h1,h2]at he
    exact hw.tinj q q' hq hq' he
  ·obtain⟨a1,a2,a3,a4,a5⟩:=hw.jk j x hj
   have hjl:=hw.jk_lt hj
   have hjg:g≠j:=by
    rcases hg with⟨hgt,_⟩ | ⟨hgt,_⟩
    ·rw[hgt];exact a4 k hk
    ·omega
   refine⟨a1,(hoth j hjl (fun e=>a4 k hk e.symm)).trans a2,a3,fun q hq=> ?_,fun o=> ?_⟩
   ·by_cases e1:q=k
    ·simp only[e1,if_true]
     exact hjg
    ·simp only[e1,if_false]
     exact a4 q hq
   ·simp only
    rw[if_neg fun hh=>hjg hh.1.symm]
    exact a5 o
 ·obtain⟨r1,r2,r3⟩:=hrows
  have:=VR.isl (P:=P) (m:={m with imm:=fun g' o=>if g'=g∧o<(h.hw k+mm)*S then(xs++news)[o]? else m.imm g' o,tg:=fun q=>if q=k then g else m.tg q,tc:=fun q=>if q=k then cap else m.tc q}) (h:=h.grow k (h.hw k+mm))
   (some k) e es g 0 cap (fun i j=>((xs++news)[i*S+j]?).getD undef) (by rw[hS];exact r2) (fun i hi j hj=>by
    rw[hS]at hj ⊢
    have:=cI (s:=S) hi
    rw[hes]at this
    simp only[Nat.zero_add]
    rw[if_pos ⟨trivial,by omega⟩,List.getElem?_eq_getElem (by omega)]
    simp) (fun i hi j hj=>by
    obtain⟨v,v1,v2⟩:=r3 i hi j hj
    rw[v1,Option.getD_some]
    exact v2.ext hx) (by
    rw[hes]
    rcases hown.2 with⟨h1,h2⟩ | ⟨_,_,_,h1,_,_,h2,_⟩
    ·simp at h1
    ·simp at h1
     obtain⟨rfl,rfl⟩:=h1
     exact h2) (fun q hq=>by
    injection hq with hq
    subst hq
    exact⟨hk,hE,by simp[AH.grow,hes],fun _=>by simp⟩)
  rw[hes]at this
  exact this
 ·have hb:∀ q,q<m.base→w'.heap[q]? =w.heap[q]? :=fun q hq=>hoth q (by have:=hw.size;omega) (by have:=htl.1;omega)
  rcases hg with⟨_,hO⟩ | ⟨_,hN⟩
  ·exact⟨hO.os,hO.tape,hO.output,hO.size,hb⟩
  ·exact⟨hN.os,hN.tape,hN.output,hN.size,hb⟩
theorem WR.grownM (hw:WR P m h w) {b:Nat} {es:List (List AV)} (hb:h.cell b=some es) (e:TypeId) (he:m.bt b=e) {xs:List Value} {n g cap:Nat}
  (hown:w'.ownsRow m.base e (P.cellsOf e) (.slice (some ⟨g,0,none⟩) n cap) n xs)
  (hg:(g=m.blk b∧eN (fun q=>q=g) w w')∨(g=w.heap.size∧New w w')) (fs:List (List AV)) (hrows:ir P m h (P.cellsOf e) fs xs) (hfs:fs.length=n):
  ∃ m',Ext m h m' ((h.set b none).push fs)∧WR P m' ((h.set b none).push fs) w'∧VR P m' ((h.set b none).push fs) (.msl h.n 0 n e) (.slice (some ⟨g,0,none⟩) n cap)∧Below m.base w w':=by
 have hx:Ext m h {m with blk:=fun q=>if q=h.n then g else m.blk q,bt:=fun q=>if q=h.n then e else m.bt q,bsz:=fun q=>if q=h.n then cap*P.cellsOf e else m.bsz q} ((h.set b none).push fs):=
  ⟨rfl,by simp[AH.push,AH.set],by simp[AH.push,AH.set],fun q hq=>by simp[show q≠h.n by omega],fun _ _ _ h=>h,fun k hk=>⟨rfl,Nat.le_refl _,fun _=>⟨rfl,rfl⟩⟩,fun _ _ h=>h⟩
 have hsize:w.heap.size≤w'.heap.size:=by
  rcases hg with⟨_,hO⟩ | ⟨_,hN⟩
  ·exact hO.size
  ·exact hN.size
 have hoth:∀ q,q<w.heap.size→q≠m.blk b→w'.heap[q]? =w.heap[q]? :=by
  intro q hq hne
  rcases hg with⟨hgt,hO⟩ | ⟨hgt,hN⟩
  ·exact hO.block q hq (fun e=>hne (e.trans hgt))
  ·exact hN.block q hq id
 have hbn:=(hw.lt b es hb).1
 have hblt:=hw.below hb
 have cases_:∀ q x,((h.set b none).push fs).cell q=some x→(q=h.n∧x=fs)∨(q≠h.n∧q≠b∧h.cell q=some x):=by
  intro q x hq
  by_cases e1:q=h.n
  ·left
   subst e1
   simp[AH.push,AH.set]at hq
   exact⟨rfl,hq.symm⟩
  ·right
   by_cases e2:q=b
   ·simp[AH.push,AH.set,e1,e2]at hq
    subst e2
    simp[e1]at hq
   ·simp[AH.push,AH.set,e1,e2]at hq
    exact⟨e1,e2,hq⟩
 have hblk:∃ cur,Blk w' g e cur∧cur.size=cap*P.cellsOf e∧n≤cap∧cap≤maxLen∧cur.toList.take (n*P.cellsOf e)=xs∧m.base≤g:=by
  rcases hown.2 with⟨h1,h2⟩ | ⟨g2,cap2,cur,h1,h2,h3,h4,h5,h6,h7⟩
  ·simp at h1
  ·simp at h1
   obtain⟨rfl,rfl⟩:=h1
   exact⟨cur,h3,h6,h4,h5,h7,h2⟩
 obtain⟨cur,hcur,hcs,hncap,hmx,htake,hgb⟩:=hblk
 have hne:∀ q x,q≠b→h.cell q=some x→m.blk q≠g:=by
  intro q x hqb hq
  rcases hg with⟨hgt,_⟩ | ⟨hgt,_⟩
  ·rw[hgt];exact fun e=>hqb (hw.inj _ _ _ _ hq hb e)
  ·have:=hw.below hq
   omega
 have hgimm:∀ o,m.imm g o=none:=by
  intro o
  rcases hg with⟨hgt,_⟩ | ⟨hgt,_⟩
  ·rw[hgt];exact hw.sep b es hb o
  ·rcases hi:m.imm g o with _ | v
   ·rfl
   ·have:=hw.imm_lt hi
    omega
 obtain⟨r1,r2,r3⟩:=hrows
 refine⟨_,hx,?_,?_,?_⟩
 ·refine⟨Nat.le_trans hw.size hsize,fun q x hq=> ?_,fun q x hq=> ?_,fun q q' x x' hq hq' he=> ?_,fun g' o v hi=> ?_,fun q x hq o=> ?_,fun k hk=> ?_,fun k hk=>hw.tfree k hk,fun k hk q x hq=> ?_,fun k k' hk hk'=>hw.tinj k k' hk hk',hw.good.keep hw.size fun g' hg' hlt=>hoth g' hg' (fun e=>by have:=(hw.lt b es hb).2;omega),fun j x hj=> ?_⟩
  ·rcases cases_ q x hq with⟨rfl,rfl⟩ | ⟨e1,e2,h3⟩
   ·simp[AH.push,AH.set,hgb]
   ·have:=hw.lt q x h3
    simp[AH.push,AH.set,e1]
    omega
  ·rcases cases_ q x hq with⟨rfl,rfl⟩ | ⟨e1,e2,h3⟩
   ·refine⟨cur,by simpa using hcur,by simp[hcs],by simpa using r2,?_,fun i hi j hj=> ?_⟩
    ·simp only[if_true]
     rw[hfs,hcs]
     exact Nat.mul_le_mul_right _ hncap
    ·obtain⟨v,v1,v2⟩:=r3 i hi j hj
     refine⟨v,?_,v2.ext hx⟩
     simp only[if_true]
     rw[←htake]at v1
     have hlt:=(List.getElem?_eq_some_iff.1 v1).1
     simp at hlt
     rw[List.getElem?_take_of_lt (by omega)]at v1
     rw[←Array.getElem?_toList]
     exact v1
   ·obtain⟨cs,c1,c2,c3,c4,c5⟩:=hw.live q x h3
    refine⟨cs,?_,by simpa[e1]using c2,by simpa[e1]using c3,by simpa[e1]using c4,fun i hi j hj=> ?_⟩
    ·simp only[e1,if_false]
     exact(hoth _ c1.lt (fun e=>e2 (hw.inj _ _ _ _ h3 hb e))).trans c1
    ·obtain⟨v,v1,v2⟩:=c5 i hi j hj
     exact⟨v,by simpa[e1]using v1,v2.ext hx⟩
  ·rcases cases_ q x hq with⟨rfl,rfl⟩ | ⟨e1,e2,h3⟩<;>rcases cases_ q' x' hq' with⟨rfl,rfl⟩ | ⟨f1,f2,f3⟩
   ·rfl
   ·simp[f1]at he
    exact absurd he.symm (hne _ _ f2 f3)
   ·simp[e1]at he
    exact absurd he (hne _ _ e2 h3)
   ·simp[e1,f1]at he
    exact hw.inj _ _ _ _ h3 f3 he
  ·have hg':g'≠m.blk b:=fun e=>by
    simp only at hi
    rw[e,hw.sep b es hb o]at hi
    cases hi
   rw[World.cell?_of_block (w:=w) (hoth _ (hw.imm_lt hi) hg')]
   exact hw.imm g' o v hi
  ·rcases cases_ q x hq with⟨rfl,rfl⟩ | ⟨e1,e2,h3⟩
   ·simp only[if_true]
    exact hgimm o
   ·simp only[e1,if_false]
    exact hw.sep q x h3 o
  ·obtain⟨ys,hy⟩:=hw.tip k hk
   refine⟨ys,hy.1,?_⟩
   rcases hy.2 with h1 | ⟨g2,cap2,cur2,e2,hg2,hh2,r⟩
   ·exact .inl h1
   ·refine .inr ⟨g2,cap2,cur2,e2,hg2,?_,r⟩
    simp[AH.push,AH.set]at e2
    obtain⟨rfl,rfl⟩:=e2
    exact(hoth _ (hw.tip_lt hk).2 (fun e=>hw.tblk k hk b es hb e.symm)).trans hh2
  ·have hne2:g≠m.tg k:=by
    rcases hg with⟨hgt,_⟩ | ⟨hgt,_⟩
    ·rw[hgt];exact hw.tblk k hk b es hb
    ·have:=(hw.tip_lt hk).2
     omega
   rcases cases_ q x hq with⟨rfl,rfl⟩ | ⟨e1,e2,h3⟩
   ·simpa using hne2
   ·simp only[e1,if_false]
    exact hw.tblk k hk q x h3
  ·obtain⟨a1,a2,a3,a4,a5⟩:=hw.jk j x hj
   have hjl:=hw.jk_lt hj
   have hjg:g≠j:=by
    rcases hg with⟨hgt,_⟩ | ⟨hgt,_⟩
    ·rw[hgt];exact a3 b es hb
    ·omega
   refine⟨a1,(hoth j hjl (fun e=>a3 b es hb e.symm)).trans a2,fun q y hq=> ?_,a4,a5⟩
   rcases cases_ q y hq with⟨rfl,rfl⟩ | ⟨e1,e2,h3⟩
   ·simpa using hjg
   ·simp only[e1,if_false]
    exact a3 q y h3
 ·have:=VR.msl (P:=P) (m:={m with blk:=fun q=>if q=h.n then g else m.blk q,bt:=fun q=>if q=h.n then e else m.bt q,bsz:=fun q=>if q=h.n then cap*P.cellsOf e else m.bsz q}) (h:=(h.set b none).push fs) h.n 0 n e cap (by simp[AH.push,AH.set]) (by simp) (by simp) hncap hmx
  simpa using this
 ·have hb':∀ q,q<m.base→w'.heap[q]? =w.heap[q]? :=fun q hq=>hoth q (by have:=hw.size;omega) (by have:=(hw.lt b es hb).2;omega)
  rcases hg with⟨_,hO⟩ | ⟨_,hN⟩
  ·exact⟨hO.os,hO.tape,hO.output,hO.size,hb'⟩
  ·exact⟨hN.os,hN.tape,hN.output,hN.size,hb'⟩
theorem ME (hT:pO P) (hw:WR P m h w) (ht:TR P m h t a.tmps) (ty:TypeId) (x y:Operand) (ho:o.op= .call {callee:= .builtin .append,args:= #[x,y],argTypes:=[ty,ty].toArray}) {e:TypeId} (he:d8 P ty=some e) (hz:(eH P e).isSome=true) (mu:Bool) {v:AV}
  (hv:aQ mu e (evA t x) (evA t y) h=some (v,h')):OpR P m h a w o v h':=by
 have hes:=eK he
 have hpos:=iv hT he
 obtain⟨z,hz⟩:=Option.isSome_iff_exists.1 hz
 obtain⟨i,zv,hi,hvz,hl',hs,hr,hrun⟩:=eZ (m:=m) (h:=h) (w:=w) hT hz
 have hi1:i.size=P.cellsOf e:=by simp[Program.cellsOf,hi]
 have hby:=hT.small e i (KU hz) hi
 have vx:=aM ht x
 have vy:=aM ht y
 obtain⟨ux,hux⟩:∃ u,a.eval x=u:=⟨_,rfl⟩
 obtain⟨uy,huy⟩:∃ u,a.eval y=u:=⟨_,rfl⟩
 rw[hux]at vx
 rw[huy]at vy
 by_cases hyn:evA t y= .nils
 ·rw[hyn]at vy hv
  cases vy
  have fin:∀ {A n c},ux= .slice A n c→n≤c→VR P m h v (.slice A n c)→h'=h→OpR P m h a w o v h':=by
   intro A n c h1 h2 h3 h4
   subst h1
   subst h4
   exact OpR.pure hw (ij ty [ty] x y ho hux huy (xQ ty e [ty] hes (by rw[hi];simp) rfl _ A n c h2)) h3
  simp only[aQ,pb]at hv
  cases hex:evA t x<;>rw[hex]at hv vx<;>simp only at hv<;>try (cases hv;done)
  ·injection hv with hv
   injection hv with h1 h2
   subst h1
   cases vx
   exact fin rfl (Nat.le_refl _) .nils h2.symm
  ·split at hv
   ·injection hv with hv
    injection hv with h1 h2
    subst h1
    have vx0:=vx
    cases vx with
    | isl0 e' a' cap=>exact fin rfl (Nat.zero_le _) vx0 h2.symm
    | isl id e' es g o' cap F hle hi' hvv hcap htt=>exact fin rfl hcap vx0 h2.symm
   ·cases hv
  ·split at hv
   ·injection hv with hv
    injection hv with h1 h2
    subst h1
    have vx0:=vx
    cases vx with
    | msl b o' n' e' cap hb he' hcap hnn hmx=>exact fin rfl hnn vx0 h2.symm
   ·cases hv
 ·have hv2:((cE h e (evA t y)).bind fun new=>if new.length=0 then pb e (evA t x) h else eS mu e (evA t x) new h)=some (v,h'):=by
   rw[←hv]
   unfold aQ
   cases hey:evA t y<;>first | rfl | exact absurd hey hyn
  clear hv
  obtain⟨new,hnew,hv⟩:=Option.bind_eq_some_iff.1 hv2
  by_cases hz0:new.length=0
  ·rw[if_pos hz0]at hv
   obtain⟨ad,n,c,news,rfl,rfl,hrl,hcell⟩:=um hw vy hyn hnew
   rw[hz0]at huy vy
   have fin:∀ {A n c'},ux= .slice A n c'→n≤c'→VR P m h v (.slice A n c')→h'=h→OpR P m h a w o v h':=by
    intro A n c' h1 h2 h3 h4
    subst h1
    subst h4
    exact OpR.pure hw (ij ty [ty] x y ho hux huy (uW ty e [ty] hes (by rw[hi];simp) rfl _ A n c' h2 ad c)) h3
   simp only[pb]at hv
   cases hex:evA t x<;>rw[hex]at hv vx<;>simp only at hv<;>try (cases hv;done)
   ·injection hv with hv
    injection hv with h1 h2
    subst h1
    cases vx
    exact fin rfl (Nat.le_refl _) .nils h2.symm
   ·split at hv
    ·injection hv with hv
     injection hv with h1 h2
     subst h1
     have vx0:=vx
     cases vx with
     | isl0 e' a' cap=>exact fin rfl (Nat.zero_le _) vx0 h2.symm
     | isl id e' es g o' cap F hle hi' hvv hcap htt=>exact fin rfl hcap vx0 h2.symm
    ·cases hv
   ·split at hv
    ·injection hv with hv
     injection hv with h1 h2
     subst h1
     have vx0:=vx
     cases vx with
     | msl b o' n' e' cap hb he' hcap hnn hmx=>exact fin rfl hnn vx0 h2.symm
    ·cases hv
  rw[if_neg hz0]at hv
  unfold eS at hv
  split at hv
  ·rename_i hc
   obtain⟨c1,c2,c3⟩:=hc
   obtain⟨ad,n,c,news,rfl,rfl,hrl,hcell⟩:=um hw vy hyn hnew
   have hone:=hrl.one hpos c3
   have hbd:∀ k,k≤1000000→(k+new.length)*i.bytes≤140737488355328:=by
    intro k hk
    have:(k+new.length)*i.bytes≤2000000*100000:=Nat.mul_le_mul (by omega) hby
    omega
   have hmxx:∀ k,k≤1000000→k+new.length≤maxLen:=by
    intro k hk
    unfold maxLen
    omega
   have hx_nil:evA t x= .nils→OpR P m h a w o v h':=by
    intro hex
    rw[hex]at hv vx
    simp only at hv
    cases vx
    obtain⟨g,cap,w',r1,r2,r3⟩:=oD (P:=P) (w:=w) m.base ty o.type e i zv (P.cellsOf e) i.bytes hes hi hvz hi1 rfl (by rw[hs]) hpos (.slice none 0 0) 0 [] (World.ownsRow_nil _ _ _ _) ad new.length c (by omega) news hrl.1 hcell hone (hmxx 0 (by omega)) (hbd 0 (by omega)) hw.size
    simp only[Nat.zero_add,List.nil_append]at r1 r2
    rcases r3 with⟨h1,_⟩ | ⟨hg,hN⟩
    ·simp at h1
    ·have hop:=ij (w':=w') ty [ty] x y ho hux huy r1
     obtain⟨q1,q2⟩:=r2
     rcases q2 with⟨h1,_⟩ | ⟨g2,cap2,cur,h1,h2,h3,h4,h5,h6,h7⟩
     ·simp at h1
     ·simp at h1
      obtain⟨rfl,rfl⟩:=h1
      have hk7:cur.toList.take (new.length*P.cellsOf e)=news:=h7
      have hv3:∀ i (hi:i<new.length) j (hj:j<new[i].length),∃ v,cur[i*P.cellsOf e+j]? =some v∧VR P m h new[i][j] v:=by
       intro i hi j hj
       obtain⟨v,v1,v2⟩:=hrl.2.2 i hi j hj
       rw[←hk7]at v1
       have hlt:=(List.getElem?_eq_some_iff.1 v1).1
       simp at hlt
       rw[List.getElem?_take_of_lt (by omega)]at v1
       exact⟨v,by rw[←Array.getElem?_toList];exact v1,v2⟩
      subst hg
      cases mu
      ·simp only[Bool.false_eq_true,if_false,Option.some.injEq,Prod.mk.injEq]at hv
       obtain⟨rfl,rfl⟩:=hv
       obtain⟨m',k1,k2,k3⟩:=hw.fresh w' e new cur cap hN h3 h6 h4 h5 hrl.2.1 hv3
       exact⟨m',w',_,.inl hop,k1,k2,k3,(New.below hN).mono hw.size⟩
      ·simp only[if_true,Option.some.injEq,Prod.mk.injEq]at hv
       obtain⟨rfl,rfl⟩:=hv
       obtain⟨m',k1,k2,k3,k4,k5⟩:=hw.push w' e new cur hN h3 (by rw[h6];exact Nat.mul_le_mul_right _ h4) hrl.2.1 hv3
       have k6:=VR.msl (P:=P) (m:=m') (h:=h.push new) h.n 0 new.length e cap (by simp[AH.push]) k4 (by rw[k5,h6,Nat.zero_add]) h4 h5
       rw[k3,Nat.zero_mul]at k6
       exact⟨m',w',_,.inl hop,k1,k2,k6,(New.below hN).mono hw.size⟩
   have hx_isl:∀ k z es,evA t x= .isl (some k) z es→OpR P m h a w o v h':=by
    intro k z es hex
    rw[hex]at hv vx
    simp only at hv
    split at hv
    ·rename_i hcond
     obtain⟨rfl,hhw,hles⟩:=hcond
     injection hv with hv
     injection hv with g1 g2
     subst g1
     subst g2
     cases vx with
     | isl id e' es g o' cap F hle hi' hvv hcap htt=>
       obtain⟨hk,hte,_,htip⟩:=htt k rfl
       obtain⟨rfl,rfl,rfl⟩:=htip hhw.symm
       obtain⟨xs,hxs⟩:=hw.tip k hk
       rw[hte,hhw]at hxs
       have hrx:ir P m h (P.cellsOf z) es xs:=Nb hw hxs hle (fun i hi j hj=>⟨F i j,by
        have:=hw.imm _ _ _ (hi' i hi j (by rw[←hle _ (List.getElem_mem hi)];exact hj))
        rwa [Nat.zero_add]at this,hvv i hi j hj⟩)
       obtain⟨g,cap2,w',r1,r2,r3⟩:=oD (P:=P) (w:=w) m.base ty o.type z i zv (P.cellsOf z) i.bytes hes hi hvz hi1 rfl (by rw[hs]) hpos _ es.length xs hxs ad new.length c (by omega) news hrl.1 hcell hone (hmxx _ hles) (hbd _ hles) hw.size
       have hop:=ij (w':=w') ty [ty] x y ho hux huy r1
       obtain⟨m',k1,k2,k3,k4⟩:=WR.grown hw hk (n:=es.length) (mm:=new.length) (xs:=xs) (news:=news) (g:=g) (cap:=cap2) (w':=w') hhw.symm c1 (by rw[hte];exact hxs) (by rw[hte];exact hpos) (by rw[hte];exact r2) (by
        rcases r3 with⟨q1,q2,_⟩ | q
        ·left
         simp at q1
         exact⟨q1.symm,q2⟩
        ·exact .inr q) (es++new) (by rw[hte];exact hrx.append hrl) (by simp)
       rw[hte]at k3
       exact⟨m',w',_,.inl hop,k1,k2,k3,k4⟩
    ·cases hv
   have hx_msl:∀ b o' n' z,evA t x= .msl b o' n' z→OpR P m h a w o v h':=by
    intro b o' n' z hex
    rw[hex]at hv vx
    simp only at hv
    split at hv
    ·rename_i hcond
     obtain⟨rfl,rfl,hles⟩:=hcond
     obtain⟨es,hb,hv⟩:=Option.bind_eq_some_iff.1 hv
     split at hv
     ·rename_i hn'
      injection hv with hv
      injection hv with g1 g2
      subst g1
      subst g2
      cases vx with
      | msl b o' n' e' cap hb' he' hcap hnn hmx=>
        obtain⟨cs,l1,l2,l3,l4,l5⟩:=hw.live b es hb
        rw[he']at l1 l3 l4 l5
        have hcsz:cs.size=cap*P.cellsOf z:=by rw[l2,←hcap,Nat.zero_add]
        have hnl:n'*P.cellsOf z≤es.length*P.cellsOf z:=Nat.mul_le_mul_right _ hn'
        have hown:w.ownsRow m.base z (P.cellsOf z) (.slice (some ⟨m.blk b,0,none⟩) n' cap) n' (cs.toList.take (n'*P.cellsOf z)):=
         ⟨by simp;omega,.inr ⟨m.blk b,cap,cs,rfl,(hw.lt b es hb).2,l1,hnn,hmx,hcsz,rfl⟩⟩
        have hrw:ir P m h (P.cellsOf z) (es.take n') (cs.toList.take (n'*P.cellsOf z)):=by
         have h1:ir P m h (P.cellsOf z) es (cs.toList.take (es.length*P.cellsOf z)):=by
          refine⟨by simp;omega,l3,fun i hi j hj=> ?_⟩
          obtain⟨v,v1,v2⟩:=l5 i hi j hj
          have:=cI (s:=P.cellsOf z) hi
          have hjs:j<P.cellsOf z:=by rw[←l3 _ (List.getElem_mem hi)];exact hj
          exact⟨v,by rw[List.getElem?_take_of_lt (by omega),Array.getElem?_toList];exact v1,v2⟩
         have h2:=h1.take n' hn'
         rwa [List.take_take,Nat.min_eq_left hnl]at h2
        obtain⟨g,cap2,w',r1,r2,r3⟩:=oD (P:=P) (w:=w) m.base ty o.type z i zv (P.cellsOf z) i.bytes hes hi hvz hi1 rfl (by rw[hs]) hpos _ n' _ hown ad new.length c (by omega) news hrl.1 hcell hone (hmxx _ hles) (hbd _ hles) hw.size
        have hux':a.eval x= .slice (some ⟨m.blk b,0,none⟩) n' cap:=by rw[hux];simp
        have hop:=ij (w':=w') ty [ty] x y ho hux' huy r1
        obtain⟨m',k1,k2,k3,k4⟩:=WR.grownM hw hb z he' (w':=w') (g:=g) (cap:=cap2) r2 (by
         rcases r3 with⟨q1,q2,_⟩ | q
         ·left
          simp at q1
          exact⟨q1.symm,q2⟩
         ·exact .inr q) (es.take n'++new) (hrw.append hrl) (by simp;omega)
        exact⟨m',w',_,.inl hop,k1,k2,k3,k4⟩
     ·cases hv
    ·cases hv
   cases hex:evA t x with
   | nils=>exact hx_nil hex
   | isl id z es=>
     cases id with
     | some k=>exact hx_isl k z es hex
     | none=>rw[hex]at hv;cases hv
   | msl b o' n' z=>exact hx_msl b o' n' z hex
   | _=>rw[hex]at hv;cases hv
  ·cases hv
theorem nI (base:Nat) (t u ty e:TypeId) (i:TypeInfo) (ht:P.underlying t=some (.slice e)) (hu:P.underlying u=some .string) (hi:P.info? e=some i) (hz:i.zero=some (.int .u8 0))
  (hsize:i.size=1) (hby:i.bytes=1) (v:Value) (n:Nat) (xs:List Value) (hown:w.ownsRow base e 1 v n xs) (s:ByteArray) (hm0:s.size≠0)
  (h63:n+s.size≤maxLen) (hbytes:n+s.size≤140737488355328) (hbase:base≤w.heap.size):
  ∃ g cap w',(Builtin.append_ #[t,u] ty #[v,.string s]).run P w= .ok (.slice (some ⟨g,0,none⟩) (n+s.size) cap) w'∧w'.ownsRow base e 1 (.slice (some ⟨g,0,none⟩) (n+s.size) cap) (n+s.size) (xs++Lib.strCells s)∧
    ((v.ownBlock=some g∧eN (fun k=>k=g) w w'∧∃ k,v= .slice (some ⟨g,0,none⟩) n k)∨(g=w.heap.size∧New w w')):=by
 have hsmall:n+s.size≤9223372036854775807:=by simp only[maxLen]at h63;omega
 have hxl:xs.length=n:=by simpa using hown.1
 have hlen:(xs++Lib.strCells s).length=(n+s.size)*1:=by rw[List.length_append,hxl,Lib.strCells_length,Nat.mul_one]
 have grown:∀ (old:Nat),old<n+s.size→
   (w.drew.alloc (.cells (xs.toArray++(Lib.strCells s).toArray++Builtin.zeroCells (Value.int .u8 0).cells (grownCap w (n+s.size) old e - (n+s.size))) e)).ownsRow base e 1
    (.slice (some ⟨w.heap.size,0,none⟩) (n+s.size) (grownCap w (n+s.size) old e)) (n+s.size) (xs++Lib.strCells s)∧
   New w (w.drew.alloc (.cells (xs.toArray++(Lib.strCells s).toArray++Builtin.zeroCells (Value.int .u8 0).cells (grownCap w (n+s.size) old e - (n+s.size))) e)):=by
  intro old ho
  have hge:=grownCap_ge w (n+s.size) old e
  have hcm:grownCap w (n+s.size) old e≤maxLen:=grownCap_le_maxLen w (n+s.size) old e h63
  refine⟨⟨hlen,.inr ⟨w.heap.size,_,_,rfl,hbase,heap_alloc_new w.drew _,hge,hcm,?_,?_⟩⟩,⟨rfl,rfl,rfl,by simp,fun k hk _=>heap_alloc_old w.drew _ hk⟩⟩
  ·have hz1:(Value.int IntKind.u8 0).cells.size=1:=rfl
   simp only[Array.size_append,List.size_toArray,size_zeroCells,hz1,hxl,Lib.strCells_length]
   omega
  ·simp only[Array.toList_append,List.append_assoc]
   rw[←List.append_assoc,←hlen]
   exact List.take_left
 rcases hown.2 with⟨rfl,rfl⟩ | ⟨g,cap,cur,rfl,hbg,hg,hnc,hcm,hcs,htake⟩
 ·have hx:xs=[]:=List.eq_nil_of_length_eq_zero hxl
  subst hx
  have hr:=run_append_nil_string (P:=P) w t u ty e i (.int .u8 0) ht hu hi hz s (by omega) (by omega) (by rw[hby];omega)
  have hgr:=grown 0 (by omega)
  simp only[Nat.zero_add,List.nil_append,Array.empty_append]at hgr ⊢
  have e1:(s.data.map fun b=>Value.int .u8 b.toNat)=(Lib.strCells s).toArray:=by
   apply Array.ext'
   simp[Lib.strCells]
  rw[e1]at hr
  exact⟨_,_,_,hr,hgr.1,.inr ⟨rfl,hgr.2⟩⟩
 ·by_cases hroom:n+s.size≤cap
  ·have hcs':cur.size=cap:=by simpa using hcs
   have hr:=Lib.run_append_room_string (P:=P) w t u ty e i ht hu hi hsize g n cap cur hg s hroom (by omega)
   refine⟨_,_,_,hr,⟨hlen,.inr ⟨g,cap,_,rfl,hbg,setRow_heap w g cur _ e _ hg,hroom,hcm,?_,?_⟩⟩,.inl ⟨rfl,⟨rfl,rfl,rfl,by simp,fun k _ hk=>setRow_other w g k _ hk⟩,⟨_,rfl⟩⟩⟩
   ·simp only[List.size_toArray,List.length_append,List.length_take,List.length_drop,Array.length_toList,Lib.strCells_length]
    omega
   ·have ht':cur.toList.take n=xs:=by simpa using htake
    rw[ht',←hlen]
    exact List.take_left
  ·have holds:∀ j u,xs[j]? =some u→w.cell? ((⟨g,0,none⟩:Addr).add j)=some u:=hown.cells (g:=g) rfl
   have hr:=Lib.run_append_grow_string (P:=P) w t u ty e i (.int .u8 0) ht hu hi hz ⟨g,0,none⟩ n cap xs (by rw[hsize];simpa using hxl) holds s (by omega) (by omega) (by rw[hby];exact growslice_fits (by omega) (by omega))
   have hgr:=grown cap (by omega)
   exact⟨_,_,_,hr,hgr.1,.inr ⟨rfl,hgr.2⟩⟩
theorem Vk {e:TypeId} (h:Pl P e=true):∃ i,P.info? e=some i∧i.zero=some (.int .u8 0)∧i.size=1∧i.bytes=1∧P.cellsOf e=1:=by
 unfold Pl at h
 split at h
 ·rename_i i hi
  simp only[Bool.and_eq_true,beq_iff_eq]at h
  obtain⟨⟨h1,h2⟩,h3⟩:=h
  split at h1
  ·rename_i n hz
   have:n=0:=by simpa using h1
   subst this
   exact⟨i,hi,hz,h2,h3,by simp[Program.cellsOf,hi,h2]⟩
  ·cases h1
 ·cases h
theorem yl (l:List UInt8):ir P m h 1 (kQ l) (Lib.strCells ⟨l.toArray⟩):=by
 refine⟨by simp[Lib.strCells],fun r hr=> ?_,fun i hi j hj=> ?_⟩
 ·obtain⟨c,_,rfl⟩:=List.mem_map.1 hr
  rfl
 ·have hi':i<l.length:=by simpa using hi
  have e:(kQ l)[i]=[.int .u8 l[i].toNat]:=by simp[kQ]
  have hj0:j=0:=by
   rw[e]at hj
   simpa using hj
  subst hj0
  refine⟨.int .u8 l[i].toNat,by simp[Lib.strCells,hi'],?_⟩
  simp only[e,List.getElem_cons_zero]
  exact .int _ _
theorem Mz {ty:TypeId} (h:fZ P ty=true):P.underlying ty=some .string:=by
 unfold fZ at h
 split at h
 ·assumption
 ·cases h
theorem uY (ty u e:TypeId) (hty:P.underlying ty=some (.slice e)) (hu:P.underlying u=some .string) {i:TypeInfo} (hi:P.info? e=some i) (hs:i.size=1) (rt:TypeId) (A:Option Addr) (n c:Nat) (hnc:n≤c):
  (Builtin.append_ #[ty,u] rt #[.slice A n c,.string ⟨#[]⟩]).run P w= .ok (.slice A n c) w:=by
 have hf:=Lib.run_firstCells_string (P:=P) w 1 ⟨#[]⟩
 have e0:(Lib.strCells ⟨#[]⟩)=[]:=rfl
 have e1:(⟨#[]⟩:ByteArray).size=0:=rfl
 rw[e0,e1]at hf
 cases A<;>simp[Builtin.append_,run_underlying hty,run_underlying hu,sizeOf,typeInfo,hi,hs,Builtin.lenOf,hnc,hf,e1,storeCells]
theorem IU (hw:WR P m h w) (ht:TR P m h t a.tmps) (ty tu:TypeId) (x y:Operand) (ho:o.op= .call {callee:= .builtin .append,args:= #[x,y],argTypes:=[ty,tu].toArray}) {e:TypeId} (he:d8 P ty=some e) (hu:fZ P tu=true) (h8:Pl P e=true) (mu:Bool) {v:AV}
  (hv:qW mu e (evA t x) (evA t y) h=some (v,h')):OpR P m h a w o v h':=by
 have hes:=eK he
 have hus:=Mz hu
 obtain⟨i,hi,hz,hs1,hb1,hc1⟩:=Vk h8
 have vx:=aM ht x
 have vy:=aM ht y
 obtain⟨ux,hux⟩:∃ u,a.eval x=u:=⟨_,rfl⟩
 obtain⟨uy,huy⟩:∃ u,a.eval y=u:=⟨_,rfl⟩
 rw[hux]at vx
 rw[huy]at vy
 unfold qW at hv
 split at hv
 ·rename_i l hey
  rw[hey]at vy
  cases vy
  split at hv
  ·rename_i hz0
   obtain rfl:=List.length_eq_zero_iff.1 hz0
   have fin:∀ {A n c'},ux= .slice A n c'→n≤c'→VR P m h v (.slice A n c')→h'=h→OpR P m h a w o v h':=by
    intro A n c' h1 h2 h3 h4
    subst h1
    subst h4
    exact OpR.pure hw (ij ty [tu] x y ho hux huy (uY ty tu e hes hus hi hs1 _ A n c' h2)) h3
   simp only[pb]at hv
   cases hex:evA t x<;>rw[hex]at hv vx<;>simp only at hv<;>try (cases hv;done)
   ·injection hv with hv
    injection hv with h1 h2
    subst h1
    cases vx
    exact fin rfl (Nat.le_refl _) .nils h2.symm
   ·split at hv
    ·injection hv with hv
     injection hv with h1 h2
     subst h1
     have vx0:=vx
     cases vx with
     | isl0 e' a' cap=>exact fin rfl (Nat.zero_le _) vx0 h2.symm
     | isl id e' es g o' cap F hle hi' hvv hcap htt=>exact fin rfl hcap vx0 h2.symm
    ·cases hv
   ·split at hv
    ·injection hv with hv
     injection hv with h1 h2
     subst h1
     have vx0:=vx
     cases vx with
     | msl b o' n' e' cap hb he' hcap hnn hmx=>exact fin rfl hnn vx0 h2.symm
    ·cases hv
  ·rename_i hz0
   split at hv
   ·rename_i hl9
    have hsz:(⟨l.toArray⟩:ByteArray).size=l.length:=vp l
    split at hv
    ·rename_i hex
     rw[hex]at vx
     cases vx
     split at hv
     ·rename_i hmu
      injection hv with hv
      injection hv with g1 g2
      subst g1
      subst g2
      obtain⟨g,cap,w',r1,r2,r3⟩:=nI (P:=P) (w:=w) m.base ty tu o.type e i hes hus hi hz hs1 hb1 (.slice none 0 0) 0 [] (World.ownsRow_nil _ _ _ _) ⟨l.toArray⟩ (by rw[hsz];exact hz0) (by rw[hsz];unfold maxLen;omega) (by rw[hsz];omega) hw.size
      rw[hsz]at r1 r2
      simp only[Nat.zero_add,List.nil_append]at r1 r2
      rcases r3 with⟨q1,_⟩ | ⟨hg,hN⟩
      ·simp at q1
      ·have hop:=ij (w':=w') ty [tu] x y ho hux huy r1
       obtain⟨q1,q2⟩:=r2
       rcases q2 with⟨h1,_⟩ | ⟨g2,cap2,cur,h1,h2,h3,h4,h5,h6,h7⟩
       ·simp at h1
       ·simp at h1
        obtain⟨rfl,rfl⟩:=h1
        have hrl:=yl (P:=P) (m:=m) (h:=h) l
        have hv3:∀ i (hi:i<(kQ l).length) j (hj:j<(kQ l)[i].length),∃ v,cur[i*P.cellsOf e+j]? =some v∧VR P m h (kQ l)[i][j] v:=by
         intro i hi j hj
         obtain⟨v,v1,v2⟩:=hrl.2.2 i hi j hj
         rw[←h7]at v1
         have hlt:=(List.getElem?_eq_some_iff.1 v1).1
         simp at hlt
         rw[List.getElem?_take_of_lt (by omega)]at v1
         exact⟨v,by rw[hc1,←Array.getElem?_toList];exact v1,v2⟩
        subst hg
        obtain⟨m',k1,k2,k3,k4,k5⟩:=hw.push w' e (kQ l) cur hN h3 (by rw[h6,hc1];simp;omega) (by rw[hc1];exact hrl.2.1) hv3
        have k6:=VR.msl (P:=P) (m:=m') (h:=h.push (kQ l)) h.n 0 l.length e cap (by simp[AH.push]) k4 (by rw[k5,h6,Nat.zero_add,hc1]) h4 h5
        rw[k3,Nat.zero_mul]at k6
        exact⟨m',w',_,.inl hop,k1,k2,k6,(New.below hN).mono hw.size⟩
     ·cases hv
    ·rename_i b o' n' z hex
     rw[hex]at vx
     split at hv
     ·rename_i hcond
      obtain⟨rfl,rfl,hles⟩:=hcond
      obtain⟨es,hb,hv⟩:=Option.bind_eq_some_iff.1 hv
      split at hv
      ·rename_i hn'
       injection hv with hv
       injection hv with g1 g2
       subst g1
       subst g2
       cases vx with
       | msl b o' n' e' cap hb' he' hcap hnn hmx=>
         obtain⟨cs,l1,l2,l3,l4,l5⟩:=hw.live b es hb
         rw[he',hc1]at l3 l4 l5
         rw[he']at l1
         have hcsz:cs.size=cap*1:=by rw[l2,←hcap,Nat.zero_add,hc1]
         have hown:w.ownsRow m.base z 1 (.slice (some ⟨m.blk b,0,none⟩) n' cap) n' (cs.toList.take (n'*1)):=
          ⟨by simp;omega,.inr ⟨m.blk b,cap,cs,rfl,(hw.lt b es hb).2,l1,hnn,hmx,hcsz,rfl⟩⟩
         have hrw:ir P m h 1 (es.take n') (cs.toList.take (n'*1)):=by
          have h1:ir P m h 1 es (cs.toList.take (es.length*1)):=by
           refine⟨by simp;omega,l3,fun i hi j hj=> ?_⟩
           obtain⟨v,v1,v2⟩:=l5 i hi j hj
           have:=cI (s:=1) hi
           have hjs:j<1:=by rw[←l3 _ (List.getElem_mem hi)];exact hj
           exact⟨v,by rw[List.getElem?_take_of_lt (by omega),Array.getElem?_toList];exact v1,v2⟩
          have h2:=h1.take n' hn'
          rwa [List.take_take,Nat.min_eq_left (by omega)]at h2
         obtain⟨g,cap2,w',r1,r2,r3⟩:=nI (P:=P) (w:=w) m.base ty tu o.type z i hes hus hi hz hs1 hb1 _ n' _ hown ⟨l.toArray⟩ (by rw[hsz];exact hz0) (by rw[hsz];unfold maxLen;omega) (by rw[hsz];omega) hw.size
         rw[hsz]at r1 r2
         have hux':a.eval x= .slice (some ⟨m.blk b,0,none⟩) n' cap:=by rw[hux];simp
         have hop:=ij (w':=w') ty [tu] x y ho hux' huy r1
         obtain⟨m',k1,k2,k3,k4⟩:=WR.grownM hw hb z he' (w':=w') (g:=g) (cap:=cap2) (by rw[hc1];exact r2) (by
          rcases r3 with⟨q1,q2,_⟩ | q
          ·left
           simp at q1
           exact⟨q1.symm,q2⟩
          ·exact .inr q) (es.take n'++kQ l) (by rw[hc1];exact hrw.append (yl l)) (by simp;omega)
         exact⟨m',w',_,.inl hop,k1,k2,k3,k4⟩
      ·cases hv
     ·cases hv
    ·cases hv
   ·cases hv
 ·cases hv
end
open Go Go.RowKit
section
variable {P:Program} {m m':Mm} {h h':AH} {w w':World} {t:List AV} {a:Act} {o:Oper}
theorem Dc (hT:pO P) (hw:WR P m h w) (ht:TR P m h t a.tmps) {v:AV} (he:cD P t o=some v):OpR P m h a w o v h:=by
 unfold cD at he
 split at he
 ·rename_i x ho
  injection he with h1
  subst h1
  exact Lm hw ht x (.inl ho)
 ·rename_i x ho
  injection he with h1
  subst h1
  exact Lm hw ht x (.inr ho)
 ·rename_i c x y ho
  split at he
  ·rename_i b hb
   injection he with h1
   subst h1
   exact Uy hw ht c x y ho hb
  ·cases he
 ·rename_i ty parts ho
  obtain⟨z,hz,he⟩:=Option.bind_eq_some_iff.1 he
  split at he
  ·rename_i pl hpl
   split at he
   ·rename_i hall
    obtain⟨cs,hcs,h1⟩:=Option.map_eq_some_iff.1 he
    subst h1
    exact EW hT hw ht ty parts ho hz (.inl ⟨pl,hpl,by simpa using hall,hcs⟩)
   ·cases he
  ·obtain⟨q,hq,he⟩:=Option.bind_eq_some_iff.1 he
   split at he
   ·cases he
   ·rename_i hnz
    obtain⟨cs,hcs,h1⟩:=Option.map_eq_some_iff.1 he
    subst h1
    exact EW hT hw ht ty parts ho hz (.inr ⟨q.1,q.2,hq,hnz,hcs⟩)
 ·rename_i x ho
  split at he<;>first | (cases he;done) | skip
  all_goals
   rename_i hx
   injection he with h1
   subst h1
   exact FH hw ht x ho hx rfl
 ·rename_i op ty x y yt ho
  have hx:=aM ht x
  have hy:=aM ht y
  split at he
  ·rename_i ex ey
   rw[ex]at hx
   rw[ey]at hy
   obtain⟨u1,hu1⟩:∃ u,a.eval x=u:=⟨_,rfl⟩
   obtain⟨u2,hu2⟩:∃ u,a.eval y=u:=⟨_,rfl⟩
   rw[hu1]at hx
   rw[hu2]at hy
   cases hx
   cases hy
   have key:∀ c,y= .const c→cB P ty= .iface→∀ b,(op= .eql∧b=true)∨(op= .neq∧b=false)→(execOp a.eval o).run P w= .ok (.value (.bool b)) w:=by
    intro c hyc hk b hop
    subst hyc
    have hd:=hk
    unfold cB at hd
    split at hd<;>simp at hd
    rename_i ms hun
    have heq:(Op.equal ty .nilIface .nilIface).run P w= .ok true w:=by
     have h0:∀ d,(Op.equalIn (d+1) ty .nilIface .nilIface).run P w= .ok true w:=fun d=>by simp[Op.equalIn,run_underlying hun]
     exact h0 9999
    have hg:(eqGuard op ty x (.const c) .nilIface .nilIface).run P w= .ok () w:=by
     rcases hop with⟨rfl,_⟩ | ⟨rfl,_⟩<;>cases x<;>rfl
    rcases hop with⟨rfl,rfl⟩ | ⟨rfl,rfl⟩
    ·have e1:binOp .eql ty .nilIface .nilIface=(do pure (.bool (←Op.equal ty .nilIface .nilIface)):Sem Value):=rfl
     simp only[execOp,ho,hu1,hu2,Sem.run_bind,hg,Result.andThen_ok,e1,heq,Sem.run_pure]
    ·have e1:binOp .neq ty .nilIface .nilIface=(do pure (.bool (!(←Op.equal ty .nilIface .nilIface))):Sem Value):=rfl
     simp only[execOp,ho,hu1,hu2,Sem.run_bind,hg,Result.andThen_ok,e1,heq,Sem.run_pure]
     rfl
   split at he
   ·rename_i c hk
    injection he with h1
    subst h1
    exact OpR.pure hw (key _ rfl hk true (.inl ⟨rfl,rfl⟩)) (.bool _)
   ·rename_i c hk
    injection he with h1
    subst h1
    exact OpR.pure hw (key _ rfl hk false (.inr ⟨rfl,rfl⟩)) (.bool _)
   ·cases he
  ·rename_i xs ys ex ey
   obtain⟨ks,hks,he⟩:=Option.bind_eq_some_iff.1 he
   split at he
   ·obtain⟨b,hb,h1⟩:=Option.map_eq_some_iff.1 he
    subst h1
    exact Fv hw ht _ ty yt x y ho ex ey hks hb (.inl ⟨rfl,rfl⟩)
   ·obtain⟨b,hb,h1⟩:=Option.map_eq_some_iff.1 he
    subst h1
    exact Fv hw ht _ ty yt x y ho ex ey hks hb (.inr ⟨rfl,rfl⟩)
   ·cases he
  ·rename_i hno1 hno2
   have hr:=he
   clear he
   obtain⟨u1,hu1⟩:∃ u,a.eval x=u:=⟨_,rfl⟩
   obtain⟨u2,hu2⟩:∃ u,a.eval y=u:=⟨_,rfl⟩
   rw[hu1]at hx
   rw[hu2]at hy
   generalize evA t x=ex at*
   generalize evA t y=ey at*
   unfold bO at hr
   split at hr
   ·rename_i k a' k' b'
    cases hx
    cases hy
    obtain⟨u,r1,r2⟩:=UH (P:=P) (m:=m) (h:=h) (w:=w) op ty k k' a' b' (cB P ty) hr
    exact OpR.pure hw (vn op ty yt x y ho hu1 hu2 rfl r1) r2
   ·rename_i a' b'
    cases hx
    cases hy
    obtain⟨u,r1,r2⟩:=TW (P:=P) (m:=m) (h:=h) (w:=w) op ty a' b' (cB P ty) hr
    exact OpR.pure hw (vn op ty yt x y ho hu1 hu2 rfl r1) r2
   ·split at hr
    ·obtain⟨b,hb,hr⟩:=Option.map_eq_some_iff.1 hr
     subst hr
     obtain⟨e1,e2,e3⟩:=PU (w:=w) ty hb hx hy
     exact OpR.pure hw (vn _ ty yt x y ho hu1 hu2 e1 e2) (.bool _)
    ·obtain⟨b,hb,hr⟩:=Option.map_eq_some_iff.1 hr
     subst hr
     obtain⟨e1,e2,e3⟩:=PU (w:=w) ty hb hx hy
     exact OpR.pure hw (vn _ ty yt x y ho hu1 hu2 e1 e3) (.bool _)
    ·cases hr
 ·rename_i op ty x ho
  have hu:=he
  exact VC hw ht op ty x ho hu
 ·rename_i src dst x ho
  split at he
  ·cases he
  ·rename_i hn
   have hu:=he
   exact If hw ht src dst x ho (by cases hs:P.underlying src<;>simp_all) hu
 ·rename_i ty x ho
  split at he
  ·cases he
  ·rename_i hp
   have hp':nE P ty=true:=by simpa using hp
   split at he
   ·injection he with h1
    subst h1
    exact mg hw ht ty x ho hp'
   ·split at he
    ·rename_i cs hcs
     injection he with h1
     subst h1
     rw[←hcs]
     exact mg hw ht ty x ho hp'
    ·cases he
 ·rename_i f first captured ho
  split at he
  ·rename_i g
   injection he with h1
   subst h1
   exact DY hw ht g first captured ho
  ·cases he
 ·rename_i ty x lo hi mx ho
  split at he
  ·cases he
  ·rename_i hcond
   have hu:=he
   simp only[Bool.or_eq_true,Bool.not_eq_true',not_or,Bool.not_eq_true,Bool.not_eq_false]at hcond
   obtain⟨c1,c2⟩:=hcond
   cases mx with
   | some mx=>simp at c1
   | none=>exact Q0 hT hw ht ty x lo hi ho c2 hu
 ·rename_i s x f ho
  obtain⟨q,hq,he⟩:=Option.bind_eq_some_iff.1 he
  split at he
  ·cases he
  ·rename_i hnz
   have hu:=he
   exact CX hw ht s x f ho hq hnz hu
 ·rename_i s x f ho
  obtain⟨q,hq,he⟩:=Option.bind_eq_some_iff.1 he
  split at he
  ·rename_i cs hcs
   split at he
   ·cases he
   ·rename_i hcond
    have hu:=he
    exact SC hw ht s x f ho hq (fun h=>hcond (.inl h)) (by
     intro hn
     exact hcond (.inr (by simp[hn]))) hcs hu
  ·cases he
 ·rename_i ty x ix ho
  have hu:=he
  exact CG hT hw ht ty x ix ho hu
 ·rename_i ty x ix ho
  have hu:=he
  exact ND hw ht ty x ix ho hu
 ·rename_i x xt aS ok ho
  split at he
  ·rename_i q v' hx
   split at he
   ·rename_i hc
    obtain⟨c1,c2⟩:=hc
    subst c2
    injection he with h1
    subst h1
    exact zq hw ht x xt q ok ho hx c1
   ·cases he
  ·cases he
 ·rename_i x i ho
  split at he
  ·rename_i vs hx
   have hu:=he
   exact IX hw ht x i ho hx hu
  ·cases he
 ·rename_i args argTypes ho
  have eA:∀ (l:List Operand),args.toList=l→args=l.toArray:=fun l hl=>by rw[←hl]
  have eT:∀ (l:List TypeId),argTypes.toList=l→argTypes=l.toArray:=fun l hl=>by rw[←hl]
  split at he
  ·rename_i x ty tys ha hty
   obtain rfl:=eA _ ha
   obtain rfl:=eT _ hty
   split at he
   ·rename_i hf
    obtain⟨n,hn,h1⟩:=Option.map_eq_some_iff.1 he
    subst h1
    exact Yf hw ht x ty tys ho hf hn
   ·cases he
  ·cases he
 ·rename_i args argTypes ho
  split at he
  ·rename_i x y ha
   obtain rfl:args=[x,y].toArray:=by rw[←ha]
   exact WQ hw ht false x y _ ho rfl rfl he
  ·cases he
 ·rename_i args argTypes ho
  split at he
  ·rename_i x y ha
   obtain rfl:args=[x,y].toArray:=by rw[←ha]
   exact WQ hw ht true x y _ ho rfl rfl he
  ·cases he
 ·cases he
theorem su (hT:pO P) (hw:WR P m h w) (ht:TR P m h t a.tmps) (mu:TypeId→Bool) {v:AV} (he:be P mu t h o=some (v,h')):OpR P m h a w o v h':=by
 unfold be at he
 split at he
 ·rename_i e ho
  obtain⟨z,hz,he⟩:=Option.map_eq_some_iff.1 he
  injection he with h1 h2
  subst h1;subst h2
  split
  ·exact Mr hT hw e ho hz
  ·exact QJ hT hw e ho hz
 ·rename_i e x ho
  split at he
  ·rename_i hc
   injection he with he
   injection he with h1 h2
   subst h1;subst h2
   split
   ·exact Vg hw ht e x ho hc.1 hc.2
   ·exact XH hw ht e x ho hc.1 hc.2
  ·cases he
 ·rename_i ty len parts ho
  obtain⟨e,he1,he⟩:=Option.bind_eq_some_iff.1 he
  obtain⟨z,hz,he⟩:=Option.bind_eq_some_iff.1 he
  split at he
  ·rename_i hc
   obtain⟨es,hes,he⟩:=Option.map_eq_some_iff.1 he
   have:=zB hT hw ht ty len parts ho he1 hz hes hc
   split at he
   ·injection he with h1 h2
    subst h1;subst h2
    exact this.1
   ·split at he
    ·injection he with h1 h2
     subst h1;subst h2
     exact this.2.2
    ·injection he with h1 h2
     subst h1;subst h2
     exact this.2.1
  ·cases he
 ·rename_i ty x ho
  split at he
  ·cases he
  ·rename_i hn
   obtain⟨u,hu,he⟩:=Option.map_eq_some_iff.1 he
   injection he with h1 h2
   subst h1;subst h2
   obtain⟨d,hd⟩:=Option.isSome_iff_exists.1 (by cases hu2:P.underlying ty<;>simp_all:(P.underlying ty).isSome=true)
   obtain⟨i,hi⟩:=yv hd
   exact TU hw ht ty x ho hd (by rw[hi];simp) hu
 ·rename_i ty x y ho
  split at he
  ·cases he
  ·rename_i hn
   obtain⟨h2,hst,he⟩:=Option.map_eq_some_iff.1 he
   injection he with e1 e2
   subst e1;subst e2
   obtain⟨i,hi,_⟩:=du hn
   exact Pg hw ht ty x y ho (by rw[hi];simp) hst
 ·rename_i ty l c ho
  split at he
  ·rename_i k1 n k2 n2 hl hc
   obtain⟨e,he1,he⟩:=Option.bind_eq_some_iff.1 he
   obtain⟨z,hz,he⟩:=Option.bind_eq_some_iff.1 he
   split at he
   ·rename_i hcond
    obtain⟨c1,c2,c3⟩:=hcond
    have hc':evA t c= .int k2 n:=by rw[hc,←c2]
    injection he with he
    injection he with h1 h2
    subst h1;subst h2
    exact CZ hT hw ht ty l c ho he1 hz hl hc' c1 c3
   ·cases he
  ·cases he
 ·rename_i args argTypes ho
  have eA:∀ (l:List Operand),args.toList=l→args=l.toArray:=fun l hl=>by rw[←hl]
  have eT:∀ (l:List TypeId),argTypes.toList=l→argTypes=l.toArray:=fun l hl=>by rw[←hl]
  split at he
  ·rename_i x y ty ty' ha hty
   obtain rfl:=eA _ ha
   obtain rfl:=eT _ hty
   split at he
   ·rename_i hte
    subst hte
    obtain⟨e,he1,he⟩:=Option.bind_eq_some_iff.1 he
    split at he
    ·rename_i hz
     exact ME hT hw ht ty x y ho he1 hz (mu ty) he
    ·cases he
   ·split at he
    ·rename_i hst
     obtain⟨e,he1,he⟩:=Option.bind_eq_some_iff.1 he
     split at he
     ·rename_i h8
      exact IU hw ht ty ty' x y ho he1 hst h8 (mu ty) he
     ·cases he
    ·cases he
  ·cases he
 ·obtain⟨u,hu,he⟩:=Option.map_eq_some_iff.1 he
  injection he with h1 h2
  subst h1;subst h2
  exact Dc hT hw ht hu
end
end Go.Proofs.YtkdbjfncchmmpaaGreat
