/- A plain model of what a call does, without addresses, capacities and orders: values are trees, slices are lists. The evaluation 'runK' of a function's body in it. -/
import Derived.WalkKit
import Derived.WalkSpells
import Derived.Deep.Draws
import Derived.Laws.Rows
import Derived.Maps.AppendAt
import Derived.Deep.AppendLies
import Derived.Laws.ResultCell
import Derived.Lib.LaidTab
import Derived.Lib.ItoaNum
import Derived.Laws.StructEq
import Derived.Laws.CopyRow
import Derived.Lib.SliceRun
import Derived.Laws.Pointers
import Derived.WideLaws
import Derived.Great.FillDense
import Derived.Lib.AppendStr
import Derived.Great.BuildSlice
import Derived.Laws.MakeOwn
import Derived.Laws.OwnMore
set_option linter.unusedSimpArgs false
set_option linter.unusedVariables false
set_option maxHeartbeats 4000000
set_option maxRecDepth 1000000
open List renaming replicate→al,getElem?_eq_getElem→fr,getElem?_eq_some_iff→fQ,length_append→ff,length_nil→gf,getD→dz,getElem_mem→iX,all_eq_true→jq,getElem?_append_right→mx,append_assoc→k',range→i7,map_cons→kT,nil_append→lQ,getElem?_append_left→o4,getElem?_eq_none→o3,length_eq_zero_iff→pR,length_take→pN,mem_map→o8,all_cons→pO,getElem?_take_of_lt→uv,map_nil→s2,getElem?_map→vF
open Nat renaming le_refl→b4,lt_of_lt_of_le→fq,le_trans→e7,zero_add→hH,zero_le→mz,lt_or_ge→ox,add_assoc→qv,le_of_eq→qA
open Go.IntKind renaming i64→j
open Option renaming some→o,none→ad,bind_eq_some_iff→dK,map_eq_some_iff→dN,bind_some→c2,map_some→hF,getD_some→rf
open Bool renaming false→T,true→O,and_eq_true→hx,false_eq_true→l9,or_eq_true→qC
open Go renaming TypeId→a6,Oper→bh,Program→cT,Value→b1,FuncId→c',run_underlying→jz,World→dy,Operand→gy,IntKind→gx,execOp→fB,undef→gq,Code→fK
open Array renaming getElem?_toList→rc
open Option.some renaming injEq→hZ,inj→kx
open Go.Result renaming andThen_ok→ij
open Go.Sem renaming run_bind→iA,run_pure→lO
open Prod.mk renaming injEq→kh
open Go.Region renaming binds→kR,before→mQ
open BitVec renaming ofInt→mP
open Go.RowKit.Below renaming refl→mv
open Go.Addr renaming add_lit→qt
open Ne renaming symm→lP
open Go.Builtin renaming append_→wV
namespace Go.Proofs.YtkdbjfncchmmpaaGreat
open Go
variable{ds:Bool}{d:TypeDesc}{y:fK}{bZ:List bh}{u:b1}{ty:a6}
inductive E where
 |az
 |bool (b:Bool)
 |int (k:gx) (n:Int)
 |str (s:List UInt8)
 |e2
 |ptr (b i off:Nat)
 |gc (t:a6) (b:Nat)
 |ip (e:List E) (off:Nat)
 |aA
 |b0 (id:Option Nat) (el:a6) (es:List (List E))
 |bn (b I n:Nat) (el:a6)
 |fn (f:c') (first captured:List E)
 |nQ
 |ig
 |iface (t:a6) (v:E)
 |agg (cs:List E)
 |bU (bA:List E)
 deriving Inhabited
abbrev Hc(n:Int):E:=.int j n
def E.cells:E->List E
 |.agg cs=>cs
 |v=>[v]
def E.one:E->Bool
 |.az|.agg _|.bU _=>T
 |_=>O
structure ag where
 n:Nat
 cell:Nat->Option (List (List E))
 ids:Nat
 hw:Nat->Nat
def ag.set(h:ag)(b:Nat)(es:Option (List (List E))):ag:={h with cell:=λk=>if k=b then es else h.cell k}
def ag.push(h:ag)(es:List (List E)):ag:={h with n:=h.n+1,cell:=λk=>if k=h.n then o es else h.cell k}
def ag.grow(h:ag)(id m:Nat):ag:={h with hw:=λk=>if k=id then m else h.hw k}
def ag.fresh(h:ag)(m:Nat):ag:={h with ids:=h.ids+1,hw:=λk=>if k=h.ids then m else h.hw k}
def ya:b1->E
 |.bool b=>.bool b
 |.int k n=>.int k n
 |.string s=>.str s.data.toList
 |.pointer ad=>.e2
 |.slice ad 0 0=>.aA
 |.nilFunc=>.nQ
 |.nilIface=>.ig
 |_=>.az
def zG:b1->E
 |.agg cs=>.agg (cs.toList.map ya)
 |v=>ya v
def bD(t:List E):gy->E
 |.tmp i=>t.getD i .az
 |.const v=>zG v
 |.func f=>.fn f [] []
 |.global _=>.az
def fj(t:List E)(d:Option Tmp)(v:E):List E:=
 match d with
 |some i=>t.set i v
 |none=>t
section
variable(P:cT)
def dl(t:a6):Nat:=P.cellsOf t
def kv(t:a6):Bool:=match P.underlying t with
 |some (.struct _)|some (.array ..)=>O
 |_=>T
def kG(t:a6):Option (List E):=if t<P.types.size then(P.info? t).bind λi=>i.zero.map λv=>(zG v).cells else ad
def sX(t:a6):Option (List (Nat×a6)):=match P.underlying t with
 |some (.struct dD)=>o (dD.toList.map λf=>(f.offset,f.type))
 |_=>ad
def kb(t:a6):Option a6:=if t<P.types.size then match P.underlying t with
 |some (.slice e)=>o e
 |_=>ad else ad
def q9(t:a6):Option (Nat×a6):=match P.underlying t with
 |some (.array n e)=>o (n,e)
 |_=>ad
inductive jP where
 |bool|int (k:gx)|str|ptr|slice|iface|func|agg|other
def hW(t:a6):jP:=match P.underlying t with
 |some .bool=>.bool
 |some (.int k)=>.int k
 |some .string=>.str
 |some (.pointer _)=>.ptr
 |some (.slice _)=>.slice
 |some (.interface _)=>.iface
 |some (.func ..)=>.func
 |some (.struct _)|some (.array ..)=>.agg
 |_=>.other
end
def oY(P:cT)(t:a6):Bool:=match P.underlying t with
 |some .string=>O
 |_=>T
def Hd(P:cT)(t:a6):Bool:=(kb P t).isSome
def wM(P:cT)(t:a6):Bool:=match P.underlying t with
 |some (.interface _)=>T
 |some _=>O
 |none=>T
def wN(P:cT)(t:a6):E->Bool
 |.str _=>oY P t
 |.b0 _ el _=>kb P t==o el
 |.bn _ _ _ el=>kb P t==o el
 |.aA=>Hd P t
 |_=>T
def gO(agg:Bool)(n:Nat)(e:List E)(off:Nat):Option E:=
 if agg then(if off+n<=e.length then o (.agg ((e.drop off).take n))else ad)else e[off]?
def dh(e:List E)(off:Nat)(cs:List E):List E:=e.take off++cs++e.drop (off+cs.length)
def ag.row(h:ag)(b i:Nat):Option (List E):=(h.cell b).bind (·[i]?)
def cS(agg:Bool)(n:Nat)(h:ag):E->Option E
 |.ptr b i off=>(h.row b i).bind λe=>gO agg n e off
 |.gc _ b=>(h.row b 0).bind λe=>gO agg n e 0
 |.ip e off=>gO agg n e off
 |_=>ad
def eQ(n:Nat)(h:ag)(a x:E):Option ag:=
 match a with
 |.ptr b i off=>(h.cell b).bind λes=>(es[i]?).bind λe=>if x.cells.all E.one/\x.cells.length=n/\off+n<=e.length then o (h.set b (o (es.set i (dh e off x.cells))))else ad
 |.gc _ b=>(h.cell b).bind λes=>(es[0]?).bind λe=>if x.cells.all E.one/\x.cells.length=n/\0+n<=e.length then o (h.set b (o (es.set 0 (dh e 0 x.cells))))else ad
 |_=>ad
def pF:List (Nat×Nat)->List E->List (Nat×E)->Option (List E)
 |_,cs,[]=>o cs
 |pl,cs,(i,v)::r=>match pl[i]? with
   |some (off,size)=>if v.cells.length=size/\off+size<=cs.length/\v.cells.all E.one then pF pl (dh cs off v.cells) r else ad
   |none=>ad
def pG:Nat->List (List E)->List (Nat×E)->Option (List (List E))
 |_,es,[]=>o es
 |eH,es,(i,v)::r=>if v.cells.length=eH/\i<es.length/\v.cells.all E.one then pG eH (es.set i v.cells) r else ad
def oZ(op:BinOp)(k:gx)(a b:Int):Option E:=
 match op with
 |.add=>o (.int k (k.wrap (a+b)))
 |.sub=>o (.int k (k.wrap (a - b)))
 |.mul=>o (.int k (k.wrap (a*b)))
 |.eql=>o (.bool (a==b))
 |.neq=>o (.bool (a != b))
 |.lss=>o (.bool (a<b))
 |.leq=>o (.bool (a<=b))
 |.gtr=>o (.bool (a>b))
 |.geq=>o (.bool (a>=b))
 |.and=>o (.int k (k.wrap (mP k.bits a&&& mP k.bits b).toNat))
 |.or=>o (.int k (k.wrap (mP k.bits a|||mP k.bits b).toNat))
 |.andNot=>o (.int k (k.wrap (mP k.bits a&&& ~~~(mP k.bits b)).toNat))
 |.rem=>if b=0 then ad else o (.int k (a.tmod b))
 |_=>ad
def ov:jP->E->E->Option Bool
 |.bool,.bool a,.bool b=>o (a==b)
 |.ptr,.e2,.e2=>o O
 |.ptr,.e2,.ptr .. =>o T
 |.ptr,.e2,.ip .. =>o T
 |.ptr,.e2,.gc .. =>o T
 |.ptr,.gc ..,.e2=>o T
 |.ptr,.ptr ..,.e2=>o T
 |.ptr,.ip ..,.e2=>o T
 |.slice,.aA,.aA=>o O
 |.slice,.b0 ..,.aA=>o T
 |.slice,.bn ..,.aA=>o T
 |.slice,.aA,.b0 .. =>o T
 |.slice,.aA,.bn .. =>o T
 |.func,.nQ,.nQ=>o O
 |.func,.fn ..,.nQ=>o T
 |.func,.nQ,.fn .. =>o T
 |.iface,.iface ..,.ig=>o T
 |.iface,.ig,.iface .. =>o T
 |_,_,_=>ad
def en(eI:jP)(op:BinOp)(x y:E):Option E:=
 match x,y with
 |.int k a,.int dQ b=>
   match op with
   |.shl=>if b<0 then ad else o (.int k (k.wrap (a*2 ^ min b.toNat k.bits)))
   |.shr=>if b<0 then ad else o (.int k (a.fdiv (2 ^ min b.toNat k.bits)))
   |_=>if k=dQ then oZ op k a b else ad
 |.str a,.str b=>match op with
   |.add=>if a.length+b.length<=1000000000000 then o (.str (a++b))else ad
   |.eql=>o (.bool (a==b))
   |.neq=>o (.bool (a != b))
   |_=>ad
 |x,y=>match op with
   |.eql=>(ov eI x y).map .bool
   |.neq=>(ov eI x y).map λb=>.bool !b
   |_=>ad
def pH:List jP->List E->List E->Option Bool
 |[],[],[]=>o O
 |.int _::aT,.int k a::xs,.int dQ b::er=>if k=dQ then(pH aT xs er).map λr=>(a==b)&&r else ad
 |.bool::aT,.bool a::xs,.bool b::er=>(pH aT xs er).map λr=>(a==b)&&r
 |.str::aT,.str a::xs,.str b::er=>(pH aT xs er).map λr=>(a==b)&&r
 |_,_,_=>ad
def vw(P:cT)(t:a6):Option (List jP):=match P.underlying t with
 |some (.struct dD)=>if !P.stoodInHeld t&& !P.eqGuardType P.depth t&&(dD.toList.zipIdx.all λ(f,i)=>f.name != "_"&&f.offset==i&&P.cellsOf f.type==1)then o (dD.toList.map λf=>hW P f.type)else ad
 |_=>ad
def fP(t:List E)(I:bh):Option (c'×List E):=
 match I.op with
 |.call {callee:=.value f,args,..}=>match bD t f with
   |.fn g first captured=>o (g,first++args.toList.map (bD t)++captured)
   |_=>ad
 |_=>ad
def hX:E->Option Nat
 |.aA=>o 0
 |.b0 _ _ es=>o es.length
 |.bn _ _ n _=>o n
 |.str s=>o s.length
 |_=>ad
def iT(h:ag)(eH:a6):E->Option (List (List E))
 |.aA=>o []
 |.b0 _ z es=>if z=eH then o es else ad
 |.bn b I n z=>if z=eH then(h.cell b).bind λes=>if I+n<=es.length then o ((es.drop I).take n)else ad else ad
 |_=>ad
def sY(el:a6)(s:E)(h:ag):Option (E×ag):=match s with
 |.aA=>o (.aA,h)
 |.b0 id z es=>if z=el then o (.b0 id z es,h)else ad
 |.bn b I n z=>if z=el then o (.bn b I n z,h)else ad
 |_=>ad
def jX(a':Bool)(el:a6)(s:E)(new:List (List E))(h:ag):Option (E×ag):=
 if 0<new.length/\new.length<=1000000/\new.all (·.all E.one)then
  match s with
  |.aA=>if a' then o (.bn h.n 0 new.length el,h.push new)else o (.b0 (o h.ids) el new,h.fresh new.length)
  |.b0 (o k) z es=>if z=el/\h.hw k=es.length/\es.length<=1000000 then o (.b0 (o k) el (es++new),h.grow k (es.length+new.length))else ad
  |.bn b I n z=>if z=el/\I=0/\n<=1000000 then
    (h.cell b).bind λes=>if n<=es.length then o (.bn h.n 0 (n+new.length) el,(h.set b ad).push (es.take n++new))else ad
    else ad
  |_=>ad
 else ad
def eU(a':Bool)(el:a6)(s x:E)(h:ag):Option (E×ag):=
 match x with
 |.aA=>sY el s h
 |x=>(iT h el x).bind λnew=>if new.length=0 then sY el s h else jX a' el s new h
abbrev ui(l:List UInt8):List (List E):=l.map λc=>[.int .u8 c.toNat]
def Dx(P:cT)(e:a6):Bool:=match P.info? e with
 |some i=>(match i.zero with|some (.int .u8 n)=>n==0|_=>T)&&i.size==1&&i.bytes==1
 |none=>T
def Dy(a':Bool)(el:a6)(s x:E)(h:ag):Option (E×ag):=
 match x with
 |.str l=>if l.length=0 then sY el s h else if l.length<=1000000000 then(match s with
   |.aA=>if a' then o (.bn h.n 0 l.length el,h.push (ui l))else ad
   |.bn b I n z=>if z=el/\I=0/\n<=1000000000 then
     (h.cell b).bind λes=>if n<=es.length then o (.bn h.n 0 (n+l.length) el,(h.set b ad).push (es.take n++ui l))else ad
     else ad
   |_=>ad)else ad
 |_=>ad
def zH:Option E->Option Int
 |none=>o 0
 |some (.int _ l)=>o l
 |_=>ad
def BD(n:Nat):Option E->Option Int
 |none=>o n
 |some (.int _ r)=>o r
 |_=>ad
def wO(x:E)(l r:Int):Option E:=
 match x with
 |.str s=>o (.str ((s.drop l.toNat).take (r.toNat - l.toNat)))
 |.b0 _ z es=>o (.b0 ad z ((es.drop l.toNat).take (r.toNat - l.toNat)))
 |.aA=>o .aA
 |.bn b I _ z=>if l=0 then o (.bn b I r.toNat z)else ad
 |_=>ad
def wP(x:E)(ih af:Option E):Option E:=(zH ih).bind λl=>(hX x).bind λn=>(BD n af).bind λr=>if 0<=l/\l<=r/\r<=n then wO x l r else ad
def zI(op:UnOp)(x:E):Option E:=
 match op,x with
 |.not,.bool b=>o (.bool !b)
 |.neg,.int k n=>o (.int k (k.wrap (0 - n)))
 |_,_=>ad
def yb(eI:jP)(x:E):Option E:=
 match eI,x with
 |.int k,.int _ n=>o (.int k (k.wrap n))
 |.str,.str s=>o (.str s)
 |_,_=>ad
def yc(ni:Bool):E->E->Option E
 |.int k a,.int _ b=>o (.int k (if ni then(if b>a then b else a)else(if b<a then b else a)))
 |_,_=>ad
def b5(off:Nat):E->Option E
 |.ptr b i I=>o (.ptr b i (I+off))
 |.gc t b=>o (if off=0 then .gc t b else .ptr b 0 off)
 |.ip e I=>o (.ip e (I+off))
 |_=>ad
def qp(P:cT)(ty:a6)(x k:E):Option E:=
 match x,k with
 |.b0 _ el es,.int _ k=>if kb P ty=o el/\0<=k then(es[k.toNat]?).map λe=>.ip e 0 else ad
 |.bn b I n el,.int _ k=>if kb P ty=o el/\0<=k/\k<n then o (.ptr b (I+k.toNat) 0)else ad
 |.ptr b i off,.int _ k=>(q9 P ty).bind λq=>if dl P q.2≠0/\0<=k/\k<q.1 then o (.ptr b i (off+k.toNat*dl P q.2))else ad
 |.ip e off,.int _ k=>(q9 P ty).bind λq=>if dl P q.2≠0/\0<=k/\k<q.1 then o (.ip e (off+k.toNat*dl P q.2))else ad
 |_,_=>ad
def wQ(P:cT)(ty:a6)(x k:E):Option E:=
 match x,k with
 |.str s,.int _ k=>if oY P ty=O/\0<=k then(s[k.toNat]?).map λc=>.int .u8 c.toNat else ad
 |.agg cs,.int _ k=>(q9 P ty).bind λq=>if(P.underlying q.2).isSome/\dl P q.2≠0/\0<=k/\k<q.1 then gO (kv P q.2) (dl P q.2) cs (k.toNat*dl P q.2)else ad
 |_,_=>ad
def jY(P:cT)(t:List E)(I:bh):Option E:=
 match I.op with
 |.move x=>o (bD t x)
 |.assign x=>o (bD t x)
 |.pick c a b=>match bD t c with
   |.bool v=>o (if v then bD t a else bD t b)
   |_=>ad
 |.build ty parts=>(kG P ty).bind λz=>match sX P ty with
   |some pl=>if pl.all (λq=>dl P q.2 != 0)then(pF (pl.map λq=>(q.1,dl P q.2)) z (parts.toList.map λq=>(q.1,bD t q.2))).map .agg else ad
   |none=>(q9 P ty).bind λq=>if dl P q.2=0 then ad else(pF ((i7 q.1).map λi=>(i*dl P q.2,dl P q.2)) z (parts.toList.map λq=>(q.1,bD t q.2))).map .agg
 |.nilCheck x=>match bD t x with
   |.ptr b i off=>o (.ptr b i off)
   |.gc t b=>o (.gc t b)
   |.ip e off=>o (.ip e off)
   |.fn f a c=>o (.fn f a c)
   |.iface q v=>o (.iface q v)
   |_=>ad
 |.binOp op ty x y _=>match bD t x,bD t y with
   |.ig,.ig=>match hW P ty,y,op with
     |.iface,.const _,.eql=>o (.bool O)
     |.iface,.const _,.neq=>o (.bool T)
     |_,_,_=>ad
   |.agg xs,.agg er=>(vw P ty).bind λaT=>match op with
     |.eql=>(pH aT xs er).map λb=>.bool b
     |.neq=>(pH aT xs er).map λb=>.bool !b
     |_=>ad
   |a,b=>en (hW P ty) op a b
 |.unOp op _ x=>zI op (bD t x)
 |.convert src dst x=>if(P.underlying src).isNone then ad else yb (hW P dst) (bD t x)
 |.makeInterface ty x=>if wM P ty=T then ad else if(bD t x).one then o (.iface ty (bD t x))else match bD t x with
   |.agg cs=>o (.iface ty (.agg cs))
   |_=>ad
 |.makeFunc f first captured=>match f with
   |.func g=>o (.fn g (first.toList.map (bD t)) (captured.toList.map (bD t)))
   |_=>ad
 |.slice ty x ih af ni=>if ni.isSome|| !wN P ty (bD t x)then ad else wP (bD t x) (ih.map (bD t)) (af.map (bD t))
 |.fieldAddr s x f=>((sX P s).bind (·[f]?)).bind λq=>if dl P q.2=0 then ad else b5 q.1 (bD t x)
 |.field s x f=>((sX P s).bind (·[f]?)).bind λq=>match bD t x with
   |.agg cs=>if dl P q.2=0\/(P.underlying q.2).isNone then ad else gO (kv P q.2) (dl P q.2) cs q.1
   |_=>ad
 |.indexAddr ty x bV=>qp P ty (bD t x) (bD t bV)
 |.index ty x bV=>wQ P ty (bD t x) (bD t bV)
 |.typeAssert x _ aS ok=>match bD t x with
   |.iface q v=>if wM P aS=O/\q=aS then o (if ok then .bU [v,.bool O]else v)else ad
   |_=>ad
 |.extract x i=>match bD t x with
   |.bU bA=>bA[i]?
   |_=>ad
 |.call {callee:=.builtin .len,args,argTypes}=>match args.toList,argTypes.toList with
   |[x],ty::_=>if wN P ty (bD t x)then(hX (bD t x)).map λ(n:Nat)=>Hc n else ad
   |_,_=>ad
 |.call {callee:=.builtin .min,args,..}=>match args.toList with
   |[x,y]=>yc T (bD t x) (bD t y)
   |_=>ad
 |.call {callee:=.builtin .max,args,..}=>match args.toList with
   |[x,y]=>yc O (bD t x) (bD t y)
   |_=>ad
 |_=>ad
def fF(P:cT)(a':a6->Bool)(t:List E)(h:ag)(I:bh):Option (E×ag):=
 match I.op with
 |.alloc e=>(kG P e).map λz=>(if a' e then .gc e h.n else .ptr h.n 0 0,h.push [z])
 |.box e x=>if(bD t x).cells.all E.one/\(bD t x).cells.length=dl P e then o (if a' e then .gc e h.n else .ptr h.n 0 0,h.push [(bD t x).cells])else ad
 |.buildSlice ty len parts=>(kb P ty).bind λe=>(kG P e).bind λz=>if len*dl P e<=16777216 then
   (pG (dl P e) (al len z) (parts.toList.map λq=>(q.1,bD t q.2))).map λes=>
    if a' ty then(.bn h.n 0 len e,h.push es)else if a' (ty+1000000)then(.b0 ad e es,h)else(.b0 (o h.ids) e es,h.fresh len)
   else ad
 |.load ty a=>if(P.underlying ty).isNone then ad else(cS (kv P ty) (dl P ty) h (bD t a)).map λv=>(v,h)
 |.store ty a x=>if dl P ty=0 then ad else(eQ (dl P ty) h (bD t a) (bD t x)).map λF=>(.az,F)
 |.makeSlice ty l c=>match bD t l,bD t c with
   |.int _ n,.int _ m=>(kb P ty).bind λe=>(kG P e).bind λz=>if 0<=n/\n=m/\n<=100000 then o (.bn h.n 0 n.toNat e,h.push (al n.toNat z))else ad
   |_,_=>ad
 |.call {callee:=.builtin .append,args,argTypes}=>match args.toList,argTypes.toList with
   |[x,y],[ty,uj]=>if ty=uj then(kb P ty).bind λe=>if(kG P e).isSome then eU (a' ty) e (bD t x) (bD t y) h else ad else if oY P uj then(kb P ty).bind λe=>if Dx P e then Dy (a' ty) e (bD t x) (bD t y) h else ad else ad
   |_,_=>ad
 |_=>(jY P t I).map λv=>(v,h)
def nj(t:List E)(I:bh):Option E:=
 match I.op with
 |.panic x=>match bD t x with
   |.iface q v=>o (.iface q v)
   |_=>ad
 |_=>ad
def bv(ops:Array bh)(t:List E)(I:bh):Option Bool:=
 match I.guard with
 |none=>o O
 |some (D,want)=>match(ops[D]?).bind (·.dst)with
   |some d=>match t.getD d .az with
     |.bool b=>o (if want then b else !b)
     |.bU _=>o T
     |_=>ad
   |none=>ad
inductive iU where
 |code (c:fK)
 |inBlock (id:Nat)
 |inLoop (c:fK)
 |ops (draw:Bool) (all:Array bh) (l:List (bh×List bh))
 |halt (K:List Item)
def ow(id:Nat):List iU->Option (List iU)
 |[]=>ad
 |.inBlock i::k=>if i=id then o k else ow id k
 |.halt _::_=>ad
 |_::k=>ow id k
inductive kw where
 |ret
 |panic (v:E)
 |halt (K:List Item)
def qq(P:cT)(t:List E)(h:ag):List ResultVar->Option (List E)
 |[]=>o []
 |.tmp i::rs=>(qq P t h rs).map λl=>t.getD i .az::l
 |.cell i ty::rs=>if(P.underlying ty).isNone then ad else(cS (kv P ty) (dl P ty) h (t.getD i .az)).bind λv=>(qq P t h rs).map λl=>v::l
def iV:List E->E
 |[v]=>v
 |bA=>.bU bA
def qr(fn:Func)(t:List E)(h:ag)(P:cT):Option E:=(qq P t h fn.results.toList).map iV
def nk(I:bh):Bool:=match I.op with
 |.alloc _|.box .. |.buildSlice .. |.store .. |.makeSlice .. |.panic _=>T
 |.call {callee:=.builtin .append,..}=>T
 |.call {callee:=.value _,..}=>T
 |_=>O
def sZ(I:bh):Bool:=match I.op with
 |.load .. =>O
 |_=>T
def lM(M:Array Nat)(i D:Nat):Bool:=(M.getD D 0).testBit i
def BE(ops:Array bh)(M:Array Nat):Bool:=(i7 ops.size).all λD=>(i7 ops.size).all λi=> !lM M i D||((ops[D]?).any λI=>I.after.any λe=>kR .any e&&decide (e.on<D)&&(e.on==i||lM M i e.on))
def uk(c1:a6->Bool)(I:bh):Bool:=match I.op,I.guard,I.dst with
 |.alloc e,ad,o _=>c1 e&&decide (e<2000000)
 |_,_,_=>T
def s0(c1:a6->Bool)(I:bh):Bool:=nk I||(match I.op with|.buildSlice ty _ _=>c1 (ty+2000000)|_=>T)
def He(c1:a6->Bool)(ops:Array bh)(M:Array Nat)(x y:Nat×List Nat):Bool:=
 let dR:=ops.getD x.1 default;let yd:=ops.getD y.1 default
 x.1 != y.1&&
 !(dR.after.any λe=>kR .any e&&e.on==y.1)&& !lM M y.1 x.1&&
 (s0 c1 dR||uk c1 yd||lM M x.1 y.1)&&
 (s0 c1 yd|| !sZ dR||lM M x.1 y.1||y.2.contains x.1)&&
 (match yd.dst with|some d=> !(dR.looksAt ops).contains d&&dR.dst != o d|none=>O)&&
 (match dR.dst with|some d=> !(yd.looksAt ops).contains d||lM M x.1 y.1|none=>O)
def Dz(c1:a6->Bool)(ops:Array bh)(M:Array Nat):List (Nat×List Nat)->Bool
 |[]=>O
 |x::r=>r.all (He c1 ops M x)&&Dz c1 ops M r
def Mh(c1:a6->Bool)(ops:Array bh)(pl:List (Nat×List Nat)):Bool:=
 let M:=mQ ops
 (i7 ops.size).all (λi=>pl.any λq=>q.1==i)&&pl.all (λq=>decide (q.1<ops.size)&&(let I:=ops.getD q.1 default
  (match I.dst with|some d=> !(I.looksAt ops).contains d|none=>O)&&(!nk I||q.2.isEmpty)&&(match I.op with|.select .. =>T|_=>O)&&q.2.all λi=>decide (i<ops.size)))&&
 ((i7 ops.size).all λD=>(ops.getD D default).after.all λe=> !kR .any e||decide (e.on<D))&&
 BE ops M&&Dz c1 ops M pl
def Mi(dq:List (Nat×Nat))(ops:Array bh)(M:Array Nat)(x y:Nat×List Nat):Bool:=
 let dR:=ops.getD x.1 default;let yd:=ops.getD y.1 default;let p:=lM M x.1 y.1||dq.contains (x.1,y.1)
 x.1 != y.1&&(nk dR||p)&&(nk yd|| !sZ dR||p||y.2.contains x.1)&&
 (match yd.dst with|some d=> !(dR.looksAt ops).contains d&&dR.dst != o d|none=>O)&&
 (match dR.dst with|some d=> !(yd.looksAt ops).contains d||p|none=>O)
def wR(dq:List (Nat×Nat))(ops:Array bh)(pl:List (Nat×List Nat)):Bool:=
 let M:=mQ ops
 (i7 ops.size).all (λi=>pl.any λq=>q.1==i)&&pl.all (λq=>decide (q.1<ops.size))&&pl.all (λq=>let I:=ops.getD q.1 default
  (match I.dst with|some d=> !(I.looksAt ops).contains d|none=>O))&&
 ((i7 ops.size).all λD=>(ops.getD D default).after.all λe=> !kR .any e||decide (e.on<D))&&
 BE ops M&&((i7 pl.length).all λD=>(i7 D).all λi=>Mi dq ops M (pl.getD i default) (pl.getD D default))
def rY(I:bh):Bool:=match I.op,I.guard,I.dst with
 |.store ..,ad,ad=>O
 |_,_,_=>T
def Mj(ops:Array bh)(pl:List (Nat×List Nat)):Bool:=match pl.reverse with
 |(y,[kc])::(x,[])::r=>kc==x&&x != y&&rY (ops.getD x default)&&rY (ops.getD y default)&&wR [(x,y)] ops (r.reverse++[(x,[]),(y,[])])&&wR [(y,x)] ops (r.reverse++[(y,[]),(x,[])])
 |_=>T
def Hf(n:Nat)(c1:a6->Bool)(ops:Array bh)(pl:List (Nat×List Nat)):Bool:=
 let M:=mQ ops
 pl.length==n&&(i7 n).all (λi=>pl.any λq=>q.1==i)&&pl.all (λq=>decide (q.1<n))&&pl.all (λq=>let I:=ops.getD q.1 default
  (match I.dst with|some d=> !(I.looksAt ops).contains d|none=>O))&&
 ((i7 ops.size).all λD=>(ops.getD D default).after.all λe=> !kR .any e||decide (e.on<D))&&
 BE ops M&&Dz c1 ops M pl
def Mk(c1:a6->Bool)(ops:Array bh)(pl:List (Nat×List Nat)):Bool:=match pl.reverse with
 |(y,[])::r=>y+1==ops.size&&(i7 y).all (λi=>lM (mQ ops) i y)&&Hf y c1 ops r.reverse
 |_=>T
def ye(S:Nat->Bool)(ops:Array bh):Bool:=ops.toList.all λI=>match I.dst with|some d=> !S d|none=>O
def DA(S:Nat->Bool)(e:a6):Bool:=S (1000000+e)
def iz(pl:Nat->List (Nat×List Nat))(S:Nat->Bool):fK->Bool
 |.region id ops d=> !d||((Mh (DA S) ops (pl id)||Mj ops (pl id)||Mk (DA S) ops (pl id))&&ye S ops)
 |.seq a b=>iz pl S a&&iz pl S b
 |.cond _ a b=>iz pl S a&&iz pl S b
 |.block _ b=>iz pl S b
 |.loop b=>iz pl S b
 |_=>O
structure h8 where
 ext:c'->Option (List E->ag->Option ((E⊕E)×ag))
 a':c'->a6->Bool
 aL:c'->Nat
 cz:c'->Nat->List (Nat×List Nat)
 use:c'->Bool
 pure:c'->Bool
 e9:c'->Nat->Bool
mutual
def c7:E->Option E
 |.b0 _ z es=>(qs es).map (.b0 ad z)
 |.agg cs=>(o0 cs).map .agg
 |.bU bA=>(o0 bA).map .bU
 |.iface t v=>(c7 v).map (.iface t)
 |.ip _ _|.ptr _ _ _|.gc _ _|.bn _ _ _ _|.fn _ _ _=>ad
 |.az=>o .az
 |.bool b=>o (.bool b)
 |.int k n=>o (.int k n)
 |.str s=>o (.str s)
 |.e2=>o .e2
 |.aA=>o .aA
 |.nQ=>o .nQ
 |.ig=>o .ig
def o0:List E->Option (List E)
 |[]=>o []
 |v::l=>match c7 v,o0 l with
   |some v,o l=>o (v::l)
   |_,_=>ad
def qs:List (List E)->Option (List (List E))
 |[]=>o []
 |v::l=>match o0 v,qs l with
   |some v,o l=>o (v::l)
   |_,_=>ad
end
structure aB(h F:ag):Prop where
 n:h.n<=F.n
 ids:h.ids<=F.ids
 cell:∀b,b<h.n->F.cell b=h.cell b
 hw:∀k,k<h.ids->F.hw k=h.hw k
open Classical in
noncomputable def nl(p:Bool)(h:ag)(q:(E⊕E)×ag):Option ((E⊕E)×ag):=
 if p=O then(if aB h q.2 then(match q.1 with
  |.inl v=>(c7 v).map λv=>(.inl v,h)
  |.inr v=>(c7 v).map λv=>(.inr v,h))else ad)else o q
def pI(P:cT)(all:Array bh)(t:List E)(h:ag):List bh->Prop
 |[]=>True
 |I::r=>(match bv all t I with
    |some O=>(match I.op,I.dst with
      |.load ty a,o d=>cS (kv P ty) (dl P ty) h (bD t a)=o (t.getD d .az)
      |.store ty a x,ad=>cS (kv P ty) (dl P ty) h (bD t a)=o (bD t x)
      |_,_=>False)
    |_=>True)/\pI P all t h r
def jf(draw:Bool)(ops:Array bh)(pl:List (Nat×List Nat)):List (bh×List bh):=
 if draw then pl.map λq=>(ops.getD q.1 default,q.2.map λi=>ops.getD i default)else ops.toList.map λI=>(I,[])
def cb(n:Nat)(t:List E):List E:=t.take n++al (t.length - n) .az
def BF(P:cT)(fn:Func)(r:kw×List E×ag):Option ((E⊕E)×ag):=match r.1 with
 |.ret=>(qr fn r.2.1 r.2.2 P).map λv=>(.inl v,r.2.2)
 |.panic v=>o (.inr v,r.2.2)
 |.halt _=>ad
open Classical in
noncomputable def dJ(P:cT)(W:h8)(f:c')(k:List iU)(t:List E)(h:ag):Option (kw×List E×ag):=
 match k with
 |[]=>o (.ret,t,h)
 |.inBlock _::k=>dJ P W f k t h
 |.halt K::_=>o (.halt K,t,h)
 |.inLoop c::k=>dJ P W f (.code c::.inLoop c::k) (cb (W.aL f) t) h
 |.ops _ _ []::k=>dJ P W f k t h
 |.ops ds all ((I,bZ)::l)::k=>
   match bv all t I with
   |none=>ad
   |some T=>dJ P W f (.ops ds all l::k) (fj t I.dst (.bU [])) h
   |some O=>
    match nj t I with
    |some v=>o (.panic v,t,h)
    |none=>
     match fP t I with
     |some (g,args)=>
       match W.ext g with
       |some ae=>ae args h>>= λr=>match r.1 with
         |.inl v=>if pI P all (fj t I.dst v) r.2 bZ then dJ P W f (.ops ds all l::k) (fj t I.dst v) r.2 else ad
         |.inr v=>o (.panic v,t,r.2)
       |none=>match P.funcs[g]? with
         |none=>ad
         |some fn=>match fn.body with
           |none=>ad
           |some c=>if W.use g=T then ad else(dJ P W g [.code c] (args++al (fn.ntmps - args.length) .az) h)>>= λr=>BF P fn r>>= λq=>nl (W.pure g) h q>>= λq=>match q.1 with
             |.inl v=>if pI P all (fj t I.dst v) q.2 bZ then dJ P W f (.ops ds all l::k) (fj t I.dst v) q.2 else ad
             |.inr v=>o (.panic v,t,q.2)
     |none=>fF P (W.a' f) t h I>>= λr=>if pI P all (fj t I.dst r.1) r.2 bZ then dJ P W f (.ops ds all l::k) (fj t I.dst r.1) r.2 else ad
 |.code c::k=>
   match c with
   |.skip=>dJ P W f k t h
   |.label _=>dJ P W f k t h
   |.seq a b=>dJ P W f (.code a::.code b::k) t h
   |.cond c x y=>match bD t c with
     |.bool b=>if b then dJ P W f (.code x::k) t h else dJ P W f (.code y::k) t h
     |_=>ad
   |.block id b=>dJ P W f (.code b::.inBlock id::k) t h
   |.loop b=>dJ P W f (.code b::.inLoop b::k) (cb (W.aL f) t) h
   |.exit id=>ow id k>>= λdQ=>dJ P W f dQ t h
   |.ret=>o (.ret,t,h)
   |.region id ops d=>dJ P W f (.ops d ops (jf d ops (W.cz f id))::k) t h
   |_=>ad
partial_fixpoint
abbrev wS:=Option (kw×List E×ag)
noncomputable def aQ(P:cT)(W:h8)(g:c')(args:List E)(h:ag):Option ((E⊕E)×ag):=
 match W.ext g with
 |some ae=>ae args h
 |none=>match P.funcs[g]? with
   |none=>ad
   |some fn=>match fn.body with
     |none=>ad
     |some c=>if W.use g=T then ad else(dJ P W g [.code c] (args++al (fn.ntmps - args.length) .az) h).bind λr=>(BF P fn r).bind λq=>nl (W.pure g) h q
section
variable(P:cT)(W:h8)(f:c')
open Classical in
noncomputable def BG(ds:Bool)(all:Array bh)(l:List (bh×List bh))(k:List iU)(t:List E)(h:ag)(bZ:List bh):wS:=if pI P all t h bZ then dJ P W f (.ops ds all l::k) t h else ad
noncomputable def Ml(ds:Bool)(all:Array bh)(d:Option Tmp)(bZ:List bh)(l:List (bh×List bh))(k:List iU)(t:List E):Option (E×ag)->wS
 |some (v,h)=>BG P W f ds all l k (fj t d v) h bZ
 |none=>ad
noncomputable def Hg(ds:Bool)(all:Array bh)(d:Option Tmp)(bZ:List bh)(l:List (bh×List bh))(k:List iU)(t:List E):Option ((E⊕E)×ag)->wS
 |some (.inl v,h)=>BG P W f ds all l k (fj t d v) h bZ
 |some (.inr v,h)=>o (.panic v,t,h)
 |none=>ad
noncomputable def BH(ds:Bool)(all:Array bh)(I:bh)(bZ:List bh)(l:List (bh×List bh))(k:List iU)(t:List E)(h:ag):Option (c'×List E)->wS
 |some (g,args)=>Hg P W f ds all I.dst bZ l k t (aQ P W g args h)
 |none=>Ml P W f ds all I.dst bZ l k t (fF P (W.a' f) t h I)
noncomputable def DB(ds:Bool)(all:Array bh)(I:bh)(bZ:List bh)(l:List (bh×List bh))(k:List iU)(t:List E)(h:ag):Option E->wS
 |some v=>o (.panic v,t,h)
 |none=>BH P W f ds all I bZ l k t h (fP t I)
noncomputable def Hh(ds:Bool)(all:Array bh)(I:bh)(bZ:List bh)(l:List (bh×List bh))(k:List iU)(t:List E)(h:ag):Option Bool->wS
 |some O=>DB P W f ds all I bZ l k t h (nj t I)
 |some T=>dJ P W f (.ops ds all l::k) (fj t I.dst (.bU [])) h
 |none=>ad
noncomputable def Mm(x y:fK)(k:List iU)(t:List E)(h:ag):E->wS
 |.bool b=>if b then dJ P W f (.code x::k) t h else dJ P W f (.code y::k) t h
 |_=>ad
noncomputable def Td(t:List E)(h:ag):Option (List iU)->wS
 |some k=>dJ P W f k t h
 |none=>ad
noncomputable def zJ(p:Bool)(fn:Func)(aj:ag):wS->Option ((E⊕E)×ag)
 |some (.ret,t,h)=>gK p aj h (qr fn t h P)
 |some (.panic v,_,h)=>nl p aj (.inr v,h)
 |some (.halt _,_,_)=>ad
 |none=>ad
where gK (p:Bool) (aj h:ag):Option E->Option ((E⊕E)×ag)
 |some v=>nl p aj (.inl v,h)
 |none=>ad
end
section
variable{P:cT}{W:h8}{f:c'}{k:List iU}{t:List E}{h:ag}
theorem ae8:dJ P W f [] t h=o (.ret,t,h):=by rw[dJ]
theorem ae9{K:List Item}:dJ P W f (.halt K::k) t h=o (.halt K,t,h):=by rw[dJ]
theorem ae'{id:Nat}:dJ P W f (.inBlock id::k) t h=dJ P W f k t h:=by rw[dJ]
theorem afa{c:fK}:dJ P W f (.inLoop c::k) t h=dJ P W f (.code c::.inLoop c::k) (cb (W.aL f) t) h:=by rw[dJ]
theorem afb{all:Array bh}:dJ P W f (.ops ds all []::k) t h=dJ P W f k t h:=by rw[dJ]
theorem afc:dJ P W f (.code .skip::k) t h=dJ P W f k t h:=by rw[dJ]
theorem afd{l:Nat}:dJ P W f (.code (.label l)::k) t h=dJ P W f k t h:=by rw[dJ]
theorem Mn{a b:fK}:dJ P W f (.code (.seq a b)::k) t h=dJ P W f (.code a::.code b::k) t h:=by rw[dJ]
theorem afe{id:Nat}{b:fK}:dJ P W f (.code (.block id b)::k) t h=dJ P W f (.code b::.inBlock id::k) t h:=by rw[dJ]
theorem aff{b:fK}:dJ P W f (.code (.loop b)::k) t h=dJ P W f (.inLoop b::k) t h:=by
 conv=>lhs;rw[dJ]
 conv=>rhs;rw[dJ]
theorem afg:dJ P W f (.code .ret::k) t h=o (.ret,t,h):=by rw[dJ]
theorem afh{id:Nat}{ops:Array bh}{d:Bool}:dJ P W f (.code (.region id ops d)::k) t h=dJ P W f (.ops d ops (jf d ops (W.cz f id))::k) t h:=by rw[dJ]
theorem afi{id:Nat}:dJ P W f (.code (.exit id)::k) t h=Td P W f t h (ow id k):=by rw[dJ];cases ow id k<;>rfl
theorem Te{c:gy}{x:fK}:dJ P W f (.code (.cond c x y)::k) t h=Mm P W f x y k t h (bD t c):=by rw[dJ];cases bD t c<;>rfl
theorem DC{all:Array bh}{I:bh}{l:List (bh×List bh)}:dJ P W f (.ops ds all ((I,bZ)::l)::k) t h=Hh P W f ds all I bZ l k t h (bv all t I):=by
 rw[dJ];rcases bv all t I with _|⟨_|_⟩
 ·rfl
 ·rfl
 ·simp only[Hh];rcases aH:nj t I with _|v
  case some=>rfl
  simp only[DB];rcases an:fP t I with _|⟨g,args⟩
  ·simp only[BH];rcases fF P (W.a' f) t h I with _|⟨v,F⟩<;>rfl
  ·simp only[BH,aQ];cases aw:W.ext g with
   |some ae=>simp only;rcases ae args h with _|⟨_|_,F⟩<;>rfl
   |none=>
     simp only;cases bl:P.funcs[g]? with
     |none=>rfl
     |some fn=>
       simp only;cases ab:fn.body with
       |none=>rfl
       |some c=>
         by_cases bQ:W.use g=T
         ·simp only[bQ,if_true];rfl
         ·simp only[bQ];generalize dJ P W g [.code c] (args++al (fn.ntmps - args.length) .az) h=r;rcases r with _|r
          ·rfl
          ·simp only[c2,Option.bind_eq_bind];rcases BF P fn r with _|q
           ·rfl
           ·simp only[c2];rcases nl (W.pure g) h q with _|⟨_|_,F⟩<;>rfl
theorem Hi{all:Array bh}{I:bh}{l:List (bh×List bh)}:Hh P W f ds all I bZ l k t h (o O)=DB P W f ds all I bZ l k t h (nj t I):=rfl
theorem Mo{all:Array bh}{I:bh}{l:List (bh×List bh)}:DB P W f ds all I bZ l k t h ad=BH P W f ds all I bZ l k t h (fP t I):=rfl
theorem afj{all:Array bh}{I:bh}{l:List (bh×List bh)}{v:E}:DB P W f ds all I bZ l k t h (o v)=o (.panic v,t,h):=rfl
theorem afk{all:Array bh}{I:bh}{l:List (bh×List bh)}:Hh P W f ds all I bZ l k t h (o T)=dJ P W f (.ops ds all l::k) (fj t I.dst (.bU [])) h:=rfl
theorem Tf{all:Array bh}{I:bh}{l:List (bh×List bh)}{g:c'}{args:List E}:BH P W f ds all I bZ l k t h (o (g,args))=Hg P W f ds all I.dst bZ l k t (aQ P W g args h):=rfl
theorem afl{all:Array bh}{I:bh}{l:List (bh×List bh)}:BH P W f ds all I bZ l k t h ad=Ml P W f ds all I.dst bZ l k t (fF P (W.a' f) t h I):=rfl
theorem afm{all:Array bh}{d:Option Tmp}{l:List (bh×List bh)}{v:E}:Ml P W f ds all d bZ l k t (o (v,h))=BG P W f ds all l k (fj t d v) h bZ:=rfl
theorem afn{all:Array bh}{d:Option Tmp}{l:List (bh×List bh)}{v:E}:Hg P W f ds all d bZ l k t (o (.inl v,h))=BG P W f ds all l k (fj t d v) h bZ:=rfl
theorem afo{all:Array bh}{d:Option Tmp}{l:List (bh×List bh)}{v:E}:Hg P W f ds all d bZ l k t (o (.inr v,h))=o (.panic v,t,h):=rfl
theorem afp{x:fK}:Mm P W f x y k t h (.bool O)=dJ P W f (.code x::k) t h:=rfl
theorem afq{x:fK}:Mm P W f x y k t h (.bool T)=dJ P W f (.code y::k) t h:=rfl
theorem Tg{all:Array bh}{l:List (bh×List bh)}(an:pI P all t h bZ):BG P W f ds all l k t h bZ=dJ P W f (.ops ds all l::k) t h:=by simp[BG,an]
theorem afr{k:List iU}:Td P W f t h (o k)=dJ P W f k t h:=rfl
theorem afs{fn:Func}{p:Bool}{aj:ag}:zJ P p fn aj (o (.ret,t,h))=zJ.gK p aj h (qr fn t h P):=rfl
theorem zK{p:Bool}{aj:ag}{v:E}:zJ.gK p aj h (o v)=nl p aj (.inl v,h):=rfl
theorem yf{aj:ag}{q:(E⊕E)×ag}:nl T aj q=o q:=by simp[nl]
theorem dI{aj:ag}{v bs:E}(a8:aB aj h)(U:c7 v=o bs):nl O aj (.inl v,h)=o (.inl bs,aj):=by simp[nl,a8,U]
theorem DD{aj:ag}{v bs:E}(a8:aB aj h)(U:c7 v=o bs):nl O aj (.inr v,h)=o (.inr bs,aj):=by simp[nl,a8,U]
theorem aft{g:c'}{fn:Func}{c:fK}{args:List E}{p:Bool}(aw:W.ext g=ad)(bl:P.funcs[g]? =o fn)(ab:fn.body=o c)(bQ:W.use g=O)(aH:W.pure g=p):aQ P W g args h=zJ P p fn h (dJ P W g [.code c] (args++al (fn.ntmps - args.length) .az) h):=by
 unfold aQ;simp only[aw,bl,ab,bQ,aH];generalize dJ P W g [.code c] (args++al (fn.ntmps - args.length) .az) h=r;rcases r with _|⟨_|_|_,dF,F⟩
 ·rfl
 ·simp only[Bool.true_eq_false,if_false,c2,BF,zJ];rcases qr fn dF F P with _|v<;>rfl
 ·rfl
 ·rfl
end
open Go.RowKit
structure h9(ae:Nat->Prop)(w ba:dy):Prop where
 os:ba.os=w.os
 tape:ba.tape=w.tape
 output:ba.output=w.output
 size:w.heap.size<=ba.heap.size
 block:∀k,k<w.heap.size->¬ae k->ba.heap[k]? =w.heap[k]?
theorem h9.refl(ae:Nat->Prop)(w:dy):h9 ae w w:=⟨rfl,rfl,rfl,b4 _,λ_ _ _=>rfl⟩
theorem h9.step{ae G:Nat->Prop}{a b c:dy}(h:h9 ae a b)(k:h9 G b c)(ee:∀i,i<a.heap.size->G i->ae i):h9 ae a c:=⟨k.os.trans h.os,k.tape.trans h.tape,k.output.trans h.output,e7 h.size k.size,λi af aE=>(k.block i (fq af h.size) (λa8=>aE (ee i af a8))).trans (h.block i af aE)⟩
theorem h9.drew{ae:Nat->Prop}{a w:dy}(h:h9 ae a w):h9 ae a w.drew:=⟨h.os,h.tape,h.output,h.size,h.block⟩
theorem h9.alloc{ae:Nat->Prop}{a w:dy}(h:h9 ae a w)(I:Obj):h9 ae a (w.alloc I):=⟨h.os,h.tape,h.output,e7 h.size (by simp),λk Z aE=>(Below.heap_alloc w I k (fq Z h.size)).trans (h.block k Z aE)⟩
end Go.Proofs.YtkdbjfncchmmpaaGreat
namespace Go.RowKit
open Go.Proofs.YtkdbjfncchmmpaaGreat
end Go.RowKit
namespace Go.Proofs.YtkdbjfncchmmpaaGreat
variable{ds:Bool}{d:TypeDesc}{y:fK}{bZ:List bh}{u:b1}{ty:a6}
open Go.RowKit
abbrev nm(w ba:dy):Prop:=h9 (λ_=>False) w ba
theorem nm.below{w ba:dy}(h:nm w ba):Below w.heap.size w ba:=⟨h.os,h.tape,h.output,h.size,λk Z=>h.block k Z id⟩
theorem h9.below{ae:Nat->Prop}{B:Nat}{w ba:dy}(h:h9 ae w ba)(dt:∀k,ae k->B<=k)(q':B<=w.heap.size):Below B w ba:=⟨h.os,h.tape,h.output,h.size,λk Z=>h.block k (by omega) (λbl=>by have:=dt k bl;omega)⟩
end Go.Proofs.YtkdbjfncchmmpaaGreat
namespace Go.RowKit
open Go.Proofs.YtkdbjfncchmmpaaGreat
end Go.RowKit
namespace Go.Proofs.YtkdbjfncchmmpaaGreat
variable{ds:Bool}{d:TypeDesc}{y:fK}{bZ:List bh}{u:b1}{ty:a6}
open Go.RowKit
end Go.Proofs.YtkdbjfncchmmpaaGreat
namespace Go.RowKit
open Go.Proofs.YtkdbjfncchmmpaaGreat
end Go.RowKit
namespace Go.Proofs.YtkdbjfncchmmpaaGreat
variable{ds:Bool}{d:TypeDesc}{y:fK}{bZ:List bh}{u:b1}{ty:a6}
open Go.RowKit
def kS(w:dy)(g:Nat)(t:a6)(cs:Array b1):Prop:=w.heap[g]? =o (.cells cs t (0,0))
section
variable{w ba:dy}{g:Nat}{t:a6}{cs:Array b1}
theorem kS.lt(h:kS w g t cs):g<w.heap.size:=by
 rcases ox g w.heap.size with bf|ul
 ·exact bf
 ·unfold kS at h;rw[Array.getElem?_eq_none ul]at h;cases h
theorem kS.cell(h:kS w g t cs)(i:Nat):w.cell? ⟨g,i,ad⟩=cs[i]? :=cell_of_row w g i cs t (0,0) h
theorem kS.new(w:dy)(t:a6)(cs:Array b1):kS (w.alloc (.cells cs t)) w.heap.size t cs:=heap_alloc_new w _
theorem kS.only{ae:Nat->Prop}(h:kS w g t cs)(ab:h9 ae w ba)(a8:¬ae g):kS ba g t cs:=(ab.block g h.lt a8).trans h
end
def ln(w:dy)(size:Nat)(A:Option Addr)(n cap:Nat)(xs:List b1):Prop:=xs.length=n*size/\n<=cap/\(A=ad->cap=0)/\∀a,A=o a->(0<n->a.spot=ad)/\∀D u,xs[D]? =o u->w.cell? ⟨a.block,a.off+D,ad⟩=o u
section
variable{w ba:dy}{size n cap:Nat}{A:Option Addr}{xs:List b1}
theorem ln.some_(h:ln w size A n cap xs)(aE:0<n):∃b I,A=o ⟨b,I,ad⟩:=by
 obtain⟨_,an,aj,J⟩:=h;rcases A with _|a
 ·have:=aj rfl;omega
 ·obtain⟨b,I,s⟩:=a;have:=(J _ rfl).1 aE;simp at this;subst this;exact⟨b,I,rfl⟩
theorem ln.afu{b I:Nat}(h:ln w size (o ⟨b,I,ad⟩) n cap xs){p:Nat}(aa:xs[p]? =o u):w.cell? ⟨b,I+p,ad⟩=o u:=(h.2.2.2 _ rfl).2 p u aa
theorem ln.afv{base:Nat}{e:a6}(h:w.ownsRow base e size (.slice A n cap) n xs):ln w size A n cap xs:=by
 refine⟨h.1,?_⟩;rcases h.2 with⟨U,aj⟩|⟨g,rZ,cur,U,_,bC,wT,_,o1,BI⟩
 ·simp at U;obtain⟨rfl,rfl,rfl⟩:=U;exact⟨b4 _,λ_=>rfl,(λa h=>by cases h)⟩
 ·simp at U;obtain⟨rfl,rfl⟩:=U;refine⟨wT,(λh=>by cases h),λa aX=>?_⟩;obtain rfl:=kx aX;refine⟨λ_=>rfl,λD u bQ=>?_⟩;have:=h.cells (g:=g) rfl D u bQ;rwa [qt]at this
theorem ln.g2(h:ln w size A n cap xs)(Z:∀p:Addr,A.map (·.block)=o p.block->w.cell? p≠ad->ba.cell? p=w.cell? p):ln ba size A n cap xs:=by refine⟨h.1,h.2.1,h.2.2.1,λa aX=>⟨(h.2.2.2 a aX).1,λD u bQ=>?_⟩⟩;have an:=(h.2.2.2 a aX).2 D u bQ;rw[Z _ (by simp[aX]) (by rw[an];simp)];exact an
theorem Th{p:Addr}(h:w.cell? p≠ad):p.block<w.heap.size:=by
 rcases an:w.cell? p with _|u
 ·exact absurd an h
 ·exact World.block_lt_of_cell? w p an
theorem ln.only{ae:Nat->Prop}(h:ln w size A n cap xs)(aF:h9 ae w ba)(dt:∀k,A.map (·.block)=o k->¬ae k):ln ba size A n cap xs:=h.g2 λp aH an=>World.cell?_of_block (aF.block _ (Th an) (dt _ aH))
theorem ln.new(h:ln w size A n cap xs)(aF:nm w ba):ln ba size A n cap xs:=h.only aF (λ_ _=>id)
theorem ln.afw{g:Nat}{t:a6}{cs:Array b1}{I:Nat}(h:kS w g t cs)(aE:n<=cap)(aw:xs.length=n*size)(an:∀D u,xs[D]? =o u->cs[I+D]? =o u):ln w size (o ⟨g,I,ad⟩) n cap xs:=
 by
 refine⟨aw,aE,(λh=>by cases h),λa aX=>?_⟩;obtain rfl:=kx aX;exact⟨λ_=>rfl,λD u bQ=>(h.cell (I+D)).trans (an D u bQ)⟩
end
theorem afx{P:cT}(base:Nat)(t ty e:a6)(i:TypeInfo)(z:b1)(size bytes:Nat)(a3:P.underlying t=o (.slice e))(af:P.info? e=o i)(aN:i.zero=o z)(s1:i.size=size)(um:i.bytes=bytes)(DE:z.cells.size=size)(eJ:0<size)(v:b1)(n:Nat)(xs:List b1)(w:dy)(iW:w.ownsRow base e size v n xs)(A:Option Addr)(m c:Nat)(er:List b1)(ao:ln w size A m c er)(J:∀u∈er,u.oneCell'=O)(wU:n+m<=maxLen)(zL:(n+m)*bytes<=140737488355328)(zM:base<=w.heap.size):∃bs ba,(wV #[t,t] ty #[v,.slice A m c]).run P w= .ok bs ba/\ba.ownsRow base e size bs (n+m) (xs++er)/\h9 (λk=>o k=v.ownBlock) w ba/\(bs.ownBlock=v.ownBlock\/bs.ownBlock=o w.heap.size)/\(0<n+m->∃g cap,bs= .slice (o ⟨g,0,ad⟩) (n+m) cap):=by
 rcases A with _|pJ
 ·have yg:=ao.2.2.1 rfl;have awT:=ao.2.1;obtain rfl:m=0:=by omega
  subst yg;have aE:er=[]:=List.eq_nil_of_length_eq_zero (by simpa using ao.1);subst aE;refine⟨v,w,run_append_owned_none (P:=P) w base t ty e i size a3 af v n xs iW,by simpa using iW,h9.refl _ _,.inl rfl,λaj=>?_⟩;rcases iW.2 with⟨rfl,h⟩|⟨g,cap,cur,rfl,_⟩
  ·omega
  ·exact⟨g,cap,rfl⟩
 ·have BJ:∀D u,er[D]? =o u->w.cell? (pJ.add D)=o u:=by
   intro D u bQ;obtain⟨aC,vx⟩:=ao.2.2.2 pJ rfl;have:=vx D u bQ;obtain⟨b,I,afy⟩:=pJ;have hm:0<m:=by
    rcases Nat.eq_zero_or_pos m with aj|aj
    ·subst aj;have aE:er=[]:=List.eq_nil_of_length_eq_zero (by simpa using ao.1);subst aE;simp at bQ
    ·exact aj
   have aC:=aC hm;simp at aC;subst aC;rw[qt];exact this
  obtain⟨bs,ba,lN,R,ah,aD,bo⟩:=run_append_own_at (P:=P) w base t ty e i z size bytes a3 af aN s1 um DE eJ v n xs iW pJ m c er ao.1 BJ J wU zL zM;refine⟨bs,ba,lN,R,⟨ah.os,ah.tape,ah.output,ah.size,ah.block⟩,bo,λaj=>?_⟩;rcases R.2 with⟨_,h⟩|⟨g,cap,cur,rfl,_⟩
  ·omega
  ·exact⟨g,cap,rfl⟩
theorem afz{P:cT}{ops:Array bh}{rest:List bh}{I:bh}{a:Act}{Q:Exit->Act->dy->Prop}(afA:I.guard=ad)(s x:gy)(t:a6)(aF:I.op= .call {callee:=.builtin .append,args:= #[s,x],argTypes:= #[t,t]})(base:Nat)(e:a6)(i:TypeInfo)(z:b1)(size bytes:Nat)(a3:P.underlying t=o (.slice e))(af:P.info? e=o i)(aN:i.zero=o z)(s1:i.size=size)(um:i.bytes=bytes)(DE:z.cells.size=size)(eJ:0<size)(v:b1)(n:Nat)(xs:List b1)(w:dy)(aC:a.eval s=v)(iW:w.ownsRow base e size v n xs)(A:Option Addr)(m c:Nat)(er:List b1)(aw:a.eval x= .slice A m c)(ao:ln w size A m c er)(J:∀u∈er,u.oneCell'=O)(wU:n+m<=maxLen)(zL:(n+m)*bytes<=140737488355328)(zM:base<=w.heap.size)(h:∀bs ba,ba.ownsRow base e size bs (n+m) (xs++er)->h9 (λk=>o k=v.ownBlock) w ba->(bs.ownBlock=v.ownBlock\/bs.ownBlock=o w.heap.size)->(0<n+m->∃g cap,bs= .slice (o ⟨g,0,ad⟩) (n+m) cap)->wpList P ops Q rest (a.put I.dst bs) ba):wpList P ops Q (I::rest) a w:=by refine wpList_plain afA λ_ eg=>?_;obtain⟨bs,ba,lN,R,ah,aD,bo⟩:=afx (P:=P) base t I.type e i z size bytes a3 af aN s1 um DE eJ v n xs w iW A m c er ao J wU zL zM;unfold Oper.wp fB;simp only[aF,resolve,invoke,builtin,iA,lO,ij,List.map_toArray,kT,s2,aC,aw,lN];exact eg _ _ (h bs ba R ah aD bo)
theorem Ti{ae:Nat->Prop}{w ba:dy}{base:Nat}{e:a6}{size:Nat}{v:b1}{n:Nat}{xs:List b1}(h:w.ownsRow base e size v n xs)(aF:h9 ae w ba)(am:∀g,v.ownBlock=o g->¬ae g):ba.ownsRow base e size v n xs:=by
 refine⟨h.1,?_⟩;rcases h.2 with J|⟨g,cap,cur,rfl,a8,bC,r⟩
 ·exact .inl J
 ·exact .inr ⟨g,cap,cur,rfl,a8,(kS.only (t:=e) bC aF (am g rfl)),r⟩
@[simp] theorem Uf (g n cap:Nat):(Value.slice (some ⟨g,0,none⟩) n cap).ownBlock=some g:=rfl
@[simp] theorem Ue (n cap:Nat):(Value.slice none n cap).ownBlock=none:=rfl
theorem awU{α:Type}{f:α->List b1}{s:Nat}(bl:∀a,(f a).length=s)(l:List α):(l.flatMap f).length=l.length*s:=by
 induction l with
 |nil=>simp
 |cons a l aZ=>simp[List.flatMap_cons,aZ,bl,Nat.add_mul];omega
open Go Go.RowKit
structure eh where
 base:Nat
 cm:Nat->Nat
 hg:Nat->a6
 nR:Nat->Nat
 eo:Nat->Nat->Option b1
 iB:Nat->Nat
 pK:Nat->Nat
 l8:Nat->a6
 gd:Nat->Option Obj
inductive bX(P:cT)(m:eh)(h:ag):E->b1->Prop
 |az (v:b1):bX P m h .az v
 |bool (b:Bool):bX P m h (.bool b) (.bool b)
 |int (k:gx) (n:Int):bX P m h (.int k n) (.int k n)
 |str (l:List UInt8):bX P m h (.str l) (.string ⟨l.toArray⟩)
 |e2:bX P m h .e2 (.pointer ad)
 |ptr (b i off:Nat) (ab:b<h.n):bX P m h (.ptr b i off) (.pointer (o ⟨m.cm b,i*P.cellsOf (m.hg b)+off,ad⟩))
 |gc (t:a6) (b:Nat) (ab:b<h.n) (a3:m.hg b=t):bX P m h (.gc t b) (.pointer (o ⟨m.cm b,0,ad⟩))
 |ip (e:List E) (off g I:Nat) (ae:Nat->b1) (af:∀D,D<e.length->m.eo g (I+D)=o (ae D)) (U:∀D (aa:D<e.length),bX P m h e[D] (ae D)):bX P m h (.ip e off) (.pointer (o ⟨g,I+off,ad⟩))
 |aA:bX P m h .aA (.slice ad 0 0)
 |b0 (id:Option Nat) (e:a6) (es:List (List E)) (g I cap:Nat) (ae:Nat->Nat->b1) (am:∀r∈es,r.length=P.cellsOf e)
   (af:∀i,i<es.length->∀D,D<P.cellsOf e->m.eo g (I+(i*P.cellsOf e+D))=o (ae i D)) (U:∀i (af:i<es.length) D (aa:D<es[i].length),bX P m h es[i][D] (ae i D)) (an:es.length<=cap)
   (a3:∀k,id=o k->k<h.ids/\m.l8 k=e/\es.length<=h.hw k/\(es.length=h.hw k->g=m.iB k/\I=0/\cap=m.pK k)):bX P m h (.b0 id e es) (.slice (o ⟨g,I,ad⟩) es.length cap)
 |nS (e:a6) (a:Addr) (cap:Nat):bX P m h (.b0 ad e []) (.slice (o a) 0 cap)
 |bn (b I n:Nat) (e:a6) (cap:Nat) (ab:b<h.n) (he:m.hg b=e) (jQ:(I+cap)*P.cellsOf e=m.nR b) (aE:n<=cap) (kd:cap<=maxLen):bX P m h (.bn b I n e) (.slice (o ⟨m.cm b,I*P.cellsOf e,ad⟩) n cap)
 |fn (g:c') (l c:List E) (b2 ej:List b1) (J:b2.length=l.length) (R:ej.length=c.length) (ah:∀D (aa:D<l.length) (dv:D<b2.length),bX P m h l[D] b2[D]) (aD:∀D (aa:D<c.length) (dv:D<ej.length),bX P m h c[D] ej[D]):
   bX P m h (.fn g l c) (.func (.func g) b2.toArray ej.toArray)
 |nQ:bX P m h .nQ .nilFunc
 |ig:bX P m h .ig .nilIface
 |iface (t:a6) (v:E) (bs:b1) (J:bX P m h v bs):bX P m h (.iface t v) (.iface t bs)
 |agg (l:List E) (b2:List b1) (J:b2.length=l.length) (ah:∀D (aa:D<l.length) (dv:D<b2.length),bX P m h l[D] b2[D]):bX P m h (.agg l) (.agg b2.toArray)
 |bU (l:List E) (b2:List b1) (J:b2.length=l.length) (ah:∀D (aa:D<l.length) (dv:D<b2.length),bX P m h l[D] b2[D]):bX P m h (.bU l) (.tuple b2.toArray)
def dT(P:cT)(m:eh)(h:ag)(l:List E)(b2:List b1):Prop:=b2.length=l.length/\∀D (aa:D<l.length) (dv:D<b2.length),bX P m h l[D] b2[D]
def Tj(P:cT):List (String×gx×List Int):=
 if(P.globalNamed ("internal"++String.singleton (Char.ofNat 47)++ "strconv.uint64pow10")).isSome then[("internal"++String.singleton (Char.ofNat 47)++ "strconv.uint64pow10",.u64,Lib.pow10Tab)]else[]
def Tk(P:cT):List String:=["strconv.ErrSyntax", "strconv.ErrRange"].filter λn=>(P.globalNamed n).isSome
structure zN(P:cT)(b:Nat)(w:dy):Prop where
 afB:∀q∈Tj P,Lib.TabIs P w q.1 q.2.1 q.2.2/\∀g,P.globalNamed q.1=o g->g<b
 afC:∀n∈Tk P,(∃dM p,w.var? P n=o #[.iface dM p])/\∀g,P.globalNamed n=o g->g<b
theorem Tl{P:cT}{n:String}{b:Nat}{w ba:dy}(R:∀g,P.globalNamed n=o g->g<b)(ab:b<=w.heap.size)(h:∀g,g<w.heap.size->g<b->ba.heap[g]? =w.heap[g]?):ba.var? P n=w.var? P n:=by
 unfold World.var?;rcases aE:P.globalNamed n with _|g
 ·rfl
 ·have bf:=R g aE;simp only[c2];rw[h g (by omega) bf]
theorem zN.g2{P:cT}{b:Nat}{w ba:dy}(a8:zN P b w)(ab:b<=w.heap.size)(h:∀g,g<w.heap.size->g<b->ba.heap[g]? =w.heap[g]?):zN P b ba:=by
 refine⟨λq aW=>?_,λn aE=>?_⟩
 ·obtain⟨J,R⟩:=a8.afB q aW;refine⟨?_,R⟩;unfold Lib.TabIs at J ⊢;rw[Tl R ab h];exact J
 ·obtain⟨J,R⟩:=a8.afC n aE;refine⟨?_,R⟩;rw[Tl R ab h];exact J
structure cc(P:cT)(m:eh)(h:ag)(w:dy):Prop where
 size:m.base<=w.heap.size
 lt:∀b es,h.cell b=o es->b<h.n/\m.base<=m.cm b
 live:∀b es,h.cell b=o es->∃cs,kS w (m.cm b) (m.hg b) cs/\cs.size=m.nR b/\(∀r∈es,r.length=P.cellsOf (m.hg b))/\es.length*P.cellsOf (m.hg b)<=cs.size/\
  ∀i (af:i<es.length) D (aa:D<es[i].length),∃v,cs[i*P.cellsOf (m.hg b)+D]? =o v/\bX P m h es[i][D] v
 inj:∀b gz es gk,h.cell b=o es->h.cell gz=o gk->m.cm b=m.cm gz->b=gz
 eo:∀g I v,m.eo g I=o v->w.cell? ⟨g,I,ad⟩=o v
 sep:∀b es,h.cell b=o es->∀I,m.eo (m.cm b) I=ad
 qu:∀k,k<h.ids->∃xs,w.ownsRow m.base (m.l8 k) (P.cellsOf (m.l8 k)) (.slice (o ⟨m.iB k,0,ad⟩) (h.hw k) (m.pK k)) (h.hw k) xs
 o2:∀k,k<h.ids->∀I,h.hw k*P.cellsOf (m.l8 k)<=I->m.eo (m.iB k) I=ad
 nT:∀k,k<h.ids->∀b es,h.cell b=o es->m.cm b≠m.iB k
 pL:∀k dQ,k<h.ids->dQ<h.ids->m.iB k=m.iB dQ->k=dQ
 cG:zN P m.base w
 gd:∀g x,m.gd g=o x->m.base<=g/\w.heap[g]? =o x/\(∀b es,h.cell b=o es->m.cm b≠g)/\(∀k,k<h.ids->m.iB k≠g)/\∀I,m.eo g I=ad
structure Ext(m:eh)(h:ag)(a9:eh)(F:ag):Prop where
 base:a9.base=m.base
 n:h.n<=F.n
 ids:h.ids<=F.ids
 cm:∀b,b<h.n->a9.cm b=m.cm b/\a9.hg b=m.hg b/\a9.nR b=m.nR b
 eo:∀g I v,m.eo g I=o v->a9.eo g I=o v
 l8:∀k,k<h.ids->a9.l8 k=m.l8 k/\h.hw k<=F.hw k/\(F.hw k=h.hw k->a9.iB k=m.iB k/\a9.pK k=m.pK k)
 gd:∀g x,m.gd g=o x->a9.gd g=o x
theorem Ext.refl(m:eh)(h:ag):Ext m h m h:=⟨rfl,b4 _,b4 _,λ_ _=>⟨rfl,rfl,rfl⟩,λ_ _ _ h=>h,λ_ _=>⟨rfl,b4 _,λ_=>⟨rfl,rfl⟩⟩,λ_ _ h=>h⟩
theorem Ext.trans{cL c3 hY:eh}{J R ah:ag}(x:Ext cL J c3 R)(y:Ext c3 R hY ah):Ext cL J hY ah:=by
 refine⟨y.base.trans x.base,e7 x.n y.n,e7 x.ids y.ids,λb ab=>?_,λg I v h=>y.eo g I v (x.eo g I v h),λk Z=>?_,λg v h=>y.gd g v (x.gd g v h)⟩
 ·obtain⟨aR,a5,bp⟩:=x.cm b ab;obtain⟨cg,dw,fW⟩:=y.cm b (fq ab x.n);exact⟨cg.trans aR,dw.trans a5,fW.trans bp⟩
 ·obtain⟨aR,a5,bp⟩:=x.l8 k Z;obtain⟨cg,dw,fW⟩:=y.l8 k (fq Z x.ids);refine⟨cg.trans aR,e7 a5 dw,λe=>?_⟩;obtain⟨aP,bu⟩:=bp (by omega);obtain⟨d1,d2⟩:=fW (by omega);exact⟨d1.trans aP,d2.trans bu⟩
section
variable{P:cT}{m a9:eh}{h F:ag}{w ba:dy}
theorem bX.ext(x:Ext m h a9 F){v:E}(r:bX P m h v u):bX P a9 F v u:=by
 induction r with
 |az v=>exact .az v
 |bool b=>exact .bool b
 |int k n=>exact .int k n
 |str l=>exact .str l
 |e2=>exact .e2
 |ptr b i off ab=>obtain⟨aR,a5,bp⟩:=x.cm b ab;have:=bX.ptr (P:=P) (m:=a9) (h:=F) b i off (fq ab x.n);rwa [aR,a5]at this
 |gc t b ab a3=>obtain⟨aR,a5,bp⟩:=x.cm b ab;have:=bX.gc (P:=P) (m:=a9) (h:=F) t b (fq ab x.n) (a5.trans a3);rwa [aR]at this
 |ip e off g I ae af U aZ=>exact .ip e off g I ae (λD aa=>x.eo _ _ _ (af D aa)) aZ
 |aA=>exact .aA
 |b0 id e es g I cap ae am af U an a3 aZ=>refine .b0 id e es g I cap ae am (λi eR D aa=>x.eo _ _ _ (af i eR D aa)) aZ an (λk Z=>?_);obtain⟨J,R,ah,aD⟩:=a3 k Z;obtain⟨t1,t2,t3⟩:=x.l8 k J;refine⟨fq J x.ids,t1.trans R,e7 ah t2,λdG=>?_⟩;obtain⟨aP,bu,cd⟩:=aD (by omega);obtain⟨d1,d2⟩:=t3 (by omega);exact⟨aP.trans d1.symm,bu,cd.trans d2.symm⟩
 |nS e a cap=>exact .nS e a cap
 |bn b I n e cap ab he jQ aE kd=>obtain⟨aR,a5,bp⟩:=x.cm b ab;have:=bX.bn (P:=P) (m:=a9) (h:=F) b I n e cap (fq ab x.n) (a5.trans he) (jQ.trans bp.symm) aE kd;rwa [aR]at this
 |fn g l c b2 ej J R ah aD yh oy=>exact .fn g l c b2 ej J R yh oy
 |nQ=>exact .nQ
 |ig=>exact .ig
 |iface t v bs J aZ=>exact .iface t v bs aZ
 |agg l b2 J ah aZ=>exact .agg l b2 J aZ
 |bU l b2 J ah aZ=>exact .bU l b2 J aZ
theorem bX.Mp{v:E}(r:bX P m h v u):∃bs,bX P m h bs u/\(∀t b,bs≠.gc t b)/\(∀agg n,cS agg n h bs=cS agg n h v)/\∀n x,eQ n h bs x=eQ n h v x:=by
 by_cases U:∃t b,v= .gc t b
 ·obtain⟨t,b,rfl⟩:=U;cases r with
  |gc _ _ ab a3=>refine⟨.ptr b 0 0,?_,(λ_ _ e=>nomatch e),λ_ _=>rfl,λ_ _=>rfl⟩;have:=bX.ptr (P:=P) (m:=m) (h:=h) b 0 0 ab;simpa using this
 ·exact⟨v,r,λt b e=>U ⟨t,b,e⟩,λ_ _=>rfl,λ_ _=>rfl⟩
theorem bX.Mq:bX P m h (.bU []) gq:=bX.bU [] [] rfl (λD aa=>by simp at aa)
theorem dT.nil:dT P m h [] []:=⟨rfl,λD aa=>by simp at aa⟩
theorem dT.cons{a:E}{b:b1}{l:List E}{b2:List b1}(J:bX P m h a b)(R:dT P m h l b2):dT P m h (a::l) (b::b2):=by
 refine⟨by simp[R.1],λD aa dv=>?_⟩;cases D with
 |zero=>exact J
 |succ D=>exact R.2 D (by simpa using aa) (by simpa using dv)
theorem dT.append{cK cX:List E}{bH bR:List b1}(J:dT P m h cK bH)(R:dT P m h cX bR):dT P m h (cK++cX) (bH++bR):=by
 refine⟨by simp[J.1,R.1],λD aa dv=>?_⟩;by_cases bf:D<cK.length
 ·rw[List.getElem_append_left bf,List.getElem_append_left (by rw[J.1];exact bf)];exact J.2 D bf _
 ·rw[List.getElem_append_right (by omega),List.getElem_append_right (by rw[J.1];omega)];have e:=J.1;simp only[e];exact R.2 _ _ _
theorem dT.map{α:Type}{f:α->E}{g:α->b1}{l:List α}(bl:∀x∈l,bX P m h (f x) (g x)):dT P m h (l.map f) (l.map g):=by refine⟨by simp,λD aa dv=>?_⟩;simp only[List.getElem_map];exact bl _ (iX _)
theorem dT.get?{l:List E}{b2:List b1}(r:dT P m h l b2){D:Nat}{v:E}(U:l[D]? =o v):∃u,b2[D]? =o u/\bX P m h v u:=by
 obtain⟨aa,rfl⟩:=fQ.1 U;have dv:D<b2.length:=by rw[r.1];exact aa
 exact⟨b2[D],fr dv,r.2 D aa dv⟩
theorem cc.below(hw:cc P m h w){b:Nat}{es:List (List E)}(ab:h.cell b=o es):m.cm b<w.heap.size:=by obtain⟨cs,an,_⟩:=hw.live b es ab;exact an.lt
theorem cc.r0(hw:cc P m h w){g I:Nat}{v:b1}(af:m.eo g I=o v):g<w.heap.size:=by have:=hw.eo g I v af;exact Th (w:=w) (p:=⟨g,I,ad⟩) (by rw[this];simp)
theorem cc.r1(hw:cc P m h w){k:Nat}(Z:k<h.ids):m.base<=m.iB k/\m.iB k<w.heap.size:=by obtain⟨xs,aw⟩:=hw.qu k Z;exact aw.lt _ rfl
theorem cc.only{S:Nat->Prop}(hw:cc P m h w)(aF:h9 S w ba)(J:∀b es,h.cell b=o es->¬S (m.cm b))(R:∀g I v,m.eo g I=o v->¬S g)(ah:∀k,k<h.ids->¬S (m.iB k))(aD:∀g,g<m.base->¬S g)(bo:∀g x,m.gd g=o x->¬S g):cc P m h ba:=by
 refine⟨e7 hw.size aF.size,hw.lt,λb es ab=>?_,hw.inj,λg I v af=>?_,hw.sep,λk Z=>?_,hw.o2,hw.nT,hw.pL,hw.cG.g2 hw.size λg a8 ab=>aF.block g a8 (aD g ab),λg x aw=>?_⟩
 ·obtain⟨cs,an,ao⟩:=hw.live b es ab;exact⟨cs,an.only aF (J b es ab),ao⟩
 ·rw[World.cell?_of_block (w:=w) (aF.block _ (hw.r0 af) (R g I v af))];exact hw.eo g I v af
 ·obtain⟨xs,aw⟩:=hw.qu k Z;exact⟨xs,Ti aw aF (λg a8=>by simp at a8;subst a8;exact ah k Z)⟩
 ·obtain⟨aR,a5,bp⟩:=hw.gd g x aw;exact⟨aR,(aF.block g (Array.getElem?_eq_some_iff.1 a5).1 (bo g x aw)).trans a5,bp⟩
theorem cc.vy(hw:cc P m h w){g:Nat}{x:Obj}(aw:m.gd g=o x):g<w.heap.size:=(Array.getElem?_eq_some_iff.1 (hw.gd g x aw).2.1).1
theorem cc.new(hw:cc P m h w)(aF:nm w ba):cc P m h ba:=hw.only aF (λ_ _ _=>id) (λ_ _ _ _=>id) (λ_ _=>id) (λ_ _=>id) (λ_ _ _=>id)
theorem cc.drew(hw:cc P m h w):cc P m h w.drew:=hw.new (h9.refl _ _).drew
theorem cc.push(hw:cc P m h w)(ba:dy)(e:a6)(es:List (List E))(cs:Array b1)(aE:nm w ba)(s3:kS ba w.heap.size e cs)(aC:es.length*P.cellsOf e<=cs.size)(am:∀r∈es,r.length=P.cellsOf e)(U:∀i (af:i<es.length) D (aa:D<es[i].length),∃v,cs[i*P.cellsOf e+D]? =o v/\bX P m h es[i][D] v):∃a9,Ext m h a9 (h.push es)/\cc P a9 (h.push es) ba/\a9.cm h.n=w.heap.size/\a9.hg h.n=e/\a9.nR h.n=cs.size:=by
 refine⟨{m with cm:=λb=>if b=h.n then w.heap.size else m.cm b,hg:=λb=>if b=h.n then e else m.hg b,nR:=λb=>if b=h.n then cs.size else m.nR b},?_,?_,by simp,by simp,by simp⟩
 ·exact⟨rfl,by simp[ag.push],by simp[ag.push],λb ab=>by simp[show b≠h.n by omega],λ_ _ _ h=>h,λk Z=>⟨rfl,b4 _,λ_=>⟨rfl,rfl⟩⟩,λ_ _ h=>h⟩
 ·have aw:Ext m h {m with cm:=λb=>if b=h.n then w.heap.size else m.cm b,hg:=λb=>if b=h.n then e else m.hg b,nR:=λb=>if b=h.n then cs.size else m.nR b} (h.push es):=⟨rfl,by simp[ag.push],by simp[ag.push],λb ab=>by simp[show b≠h.n by omega],λ_ _ _ h=>h,λk Z=>⟨rfl,b4 _,λ_=>⟨rfl,rfl⟩⟩,λ_ _ h=>h⟩;have gA:=hw.new aE;have fe:∀b x,(h.push es).cell b=o x->b≠h.n->h.cell b=o x:=by intro b x ab di;simpa[ag.push,di]using ab
  have new:∀b x,(h.push es).cell b=o x->b=h.n->x=es:=by intro b x ab he;subst he;simp[ag.push]at ab;exact ab.symm
  refine⟨gA.size,λb x ab=>?_,λb x ab=>?_,λb gz x kc ab k9 he=>?_,gA.eo,λb x ab I=>?_,gA.qu,gA.o2,λk Z b x ab=>?_,gA.pL,gA.cG,λg x aw=>?_⟩
  ·by_cases hE:b=h.n
   ·subst hE;exact⟨by simp[ag.push],by simpa using hw.size⟩
   ·have:=hw.lt b x (fe b x ab hE);exact⟨by simp[ag.push];omega,by simpa[hE]using this.2⟩
  ·by_cases hE:b=h.n
   ·subst hE;have:=new _ _ ab rfl;subst this;refine⟨cs,by simpa using s3,by simp,by simpa using am,by simpa using aC,λi af D aa=>?_⟩;obtain⟨v,J,R⟩:=U i af D aa;exact⟨v,by simpa using J,R.ext aw⟩
   ·obtain⟨g3,J,R,ah,aD,bo⟩:=gA.live b x (fe b x ab hE);refine⟨g3,by simpa[hE]using J,by simpa[hE]using R,by simpa[hE]using ah,by simpa[hE]using aD,λi af D aa=>?_⟩;obtain⟨v,b9,c4⟩:=bo i af D aa;exact⟨v,by simpa[hE]using b9,c4.ext aw⟩
  ·by_cases J:b=h.n<;>by_cases R:gz=h.n
   ·omega
   ·have:=hw.below (fe _ _ k9 R);simp[J,R]at he;omega
   ·have:=hw.below (fe _ _ ab J);simp[J,R]at he;omega
   ·simp[J,R]at he;exact hw.inj b gz x kc (fe _ _ ab J) (fe _ _ k9 R) he
  ·by_cases J:b=h.n
   ·simp only[J,if_true];rcases af:m.eo w.heap.size I with _|v
    ·rfl
    ·have:=hw.r0 af;omega
   ·simp only[J,if_false];exact hw.sep b x (fe _ _ ab J) I
  ·by_cases J:b=h.n
   ·have:=hw.r1 Z;simp[J];omega
   ·simp only[J,if_false];exact hw.nT k Z b x (fe _ _ ab J)
  ·obtain⟨aR,a5,bp,cA,et⟩:=gA.gd g x aw;refine⟨aR,a5,λb y ab=>?_,cA,et⟩;by_cases J:b=h.n
   ·have:=hw.vy aw;simp only[J,if_true];omega
   ·simp only[J,if_false];exact bp b y (fe _ _ ab J)
theorem cc.Hj(hw:cc P m h w){b:Nat}{es gk:List (List E)}(ab:h.cell b=o es)(aF:h9 (λk=>k=m.cm b) w ba)(g3:Array b1)(an:kS ba (m.cm b) (m.hg b) g3)(aC:g3.size=m.nR b)(am:∀r∈gk,r.length=P.cellsOf (m.hg b))(hle:gk.length*P.cellsOf (m.hg b)<=g3.size)(U:∀i (af:i<gk.length) D (aa:D<gk[i].length),∃v,g3[i*P.cellsOf (m.hg b)+D]? =o v/\bX P m h gk[i][D] v):Ext m h m (h.set b (o gk))/\cc P m (h.set b (o gk)) ba:=by
 have aw:Ext m h m (h.set b (o gk)):=⟨rfl,b4 _,b4 _,λ_ _=>⟨rfl,rfl,rfl⟩,λ_ _ _ h=>h,λ_ _=>⟨rfl,b4 _,λ_=>⟨rfl,rfl⟩⟩,λ_ _ h=>h⟩;refine⟨aw,?_⟩;have some_:∀gz x,(h.set b (o gk)).cell gz=o x->∃y,h.cell gz=o y:=by
  intro gz x k9;by_cases e:gz=b
  ·subst e;exact⟨_,ab⟩
  ·exact⟨x,by simpa[ag.set,e]using k9⟩
 refine⟨e7 hw.size aF.size,λgz x k9=>?_,λgz x k9=>?_,λcg dw b3 dH J R he=>?_,λg I v af=>?_,λgz x k9 I=>?_,λk Z=>?_,hw.o2,λk Z gz x k9=>?_,hw.pL,hw.cG.g2 hw.size λg a8 bf=>aF.block g a8 (λe=>by have:=(hw.lt b es ab).2;omega),λg x aa=>?_⟩
 ·obtain⟨y,bE⟩:=some_ _ _ k9;exact hw.lt _ _ bE
 ·by_cases e:gz=b
  ·subst e;have:x=gk:=by simpa[ag.set,eq_comm]using k9
   subst this;refine⟨g3,an,aC,am,hle,λi af D aa=>?_⟩;obtain⟨v,J,R⟩:=U i af D aa;exact⟨v,J,R.ext aw⟩
  ·have nU:h.cell gz=o x:=by simpa[ag.set,e]using k9
   obtain⟨bu,J,R,ah,aD,bo⟩:=hw.live gz x nU;refine⟨bu,J.only aF (λdG=>e (hw.inj _ _ _ _ nU ab dG)),R,ah,aD,λi af D aa=>?_⟩;obtain⟨v,b9,c4⟩:=bo i af D aa;exact⟨v,b9,c4.ext aw⟩
 ·obtain⟨fs,DF⟩:=some_ _ _ J;obtain⟨jy,DG⟩:=some_ _ _ R;exact hw.inj _ _ _ _ DF DG he
 ·have di:g≠m.cm b:=λe=>by subst e;have:=hw.sep b es ab I;rw[this]at af;cases af
  rw[World.cell?_of_block (w:=w) (aF.block _ (hw.r0 af) di)];exact hw.eo g I v af
 ·obtain⟨y,bE⟩:=some_ _ _ k9;exact hw.sep _ _ bE I
 ·obtain⟨xs,vz⟩:=hw.qu k Z;exact⟨xs,Ti vz aF (λg a8 e=>by simp at a8;exact hw.nT k Z b es ab (by rw[a8];exact e.symm))⟩
 ·obtain⟨y,bE⟩:=some_ _ _ k9;exact hw.nT k Z _ _ bE
 ·obtain⟨aR,a5,bp,cA,et⟩:=hw.gd g x aa;refine⟨aR,(aF.block g (hw.vy aa) λe=>bp b es ab e.symm).trans a5,λgz y k9=>?_,cA,et⟩;obtain⟨z,aN⟩:=some_ _ _ k9;exact bp _ _ aN
end
open Go Go.RowKit
structure pM(P:cT):Prop where
 zero:∀t i v,t<P.types.size->P.info? t=o i->i.zero=o v->v.cells.size=i.size
 small:∀t i,t<P.types.size->P.info? t=o i->i.bytes<=100000
 pos:∀t e,t<P.types.size->P.underlying t=o (.slice e)->0<P.cellsOf e
def dY(P:cT)(m:eh)(h:ag)(t:List E)(a:Array b1):Prop:=a.size=t.length/\∀i (af:i<t.length),bX P m h t[i] (a.getD i gq)
def dZ(P:cT)(m:eh)(h:ag)(a:Act)(w:dy)(I:bh)(v:E)(F:ag):Prop:=∃a9 ba u,((fB a.eval I).run P w= .ok (.value u) ba\/((fB a.eval I).run P w= .ok .skip ba/\u=gq))/\Ext m h a9 F/\cc P a9 F ba/\bX P a9 F v u/\Below m.base w ba
section
variable{P:cT}{m a9:eh}{h F:ag}{w ba:dy}{t:List E}{a:Act}{I:bh}
theorem dY.ext(x:Ext m h a9 F){uo:Array b1}(r:dY P m h t uo):dY P a9 F t uo:=⟨r.1,λi af=>(r.2 i af).ext x⟩
theorem dY.put(r:dY P m h t a.tmps){v:E}{u:b1}(U:bX P m h v u)(d:Option Tmp):dY P m h (fj t d v) (a.put d u).tmps:=by
 cases d with
 |none=>exact r
 |some d=>
   refine⟨by simp[fj,Act.put,r.1],λi af=>?_⟩;have eR:i<t.length:=by simpa[fj]using af
   have au:(fj t (o d) v)[i]=if d=i then v else t[i]:=by simp[fj,List.getElem_set]
   have ax:(a.put (o d) u).tmps.getD i gq=if d=i then u else a.tmps.getD i gq:=by
    have aC:i<a.tmps.size:=by rw[r.1];exact eR
    simp[Act.put,Array.getD,aC,Array.getElem_setIfInBounds]
   rw[au,ax];by_cases e:d=i
   ·rw[if_pos e,if_pos e];exact U
   ·rw[if_neg e,if_neg e];exact r.2 i eR
theorem dY.get(r:dY P m h t a.tmps)(i:Nat):bX P m h (t.getD i .az) (a.tmps.getD i gq):=by
 by_cases af:i<t.length
 ·have:=r.2 i af;simpa[dz,af]using this
 ·rw[dz,o3 (by omega)];exact .az _
theorem Hk(v:b1):bX P m h (ya v) v:=by
 unfold ya;split
 ·exact .bool _
 ·exact .int _ _
 ·rename_i s;have:=bX.str (P:=P) (m:=m) (h:=h) s.data.toList;simpa using this
 ·exact .e2
 ·exact .aA
 ·exact .nQ
 ·exact .ig
 ·exact .az _
theorem afD(v:b1):bX P m h (zG v) v:=by
 unfold zG;split
 ·rename_i cs;have:=bX.agg (P:=P) (m:=m) (h:=h) (cs.toList.map ya) cs.toList (by simp) (λD aa dv=>by simpa using Hk _);simpa using this
 ·exact Hk v
theorem hv(r:dY P m h t a.tmps)(x:gy):bX P m h (bD t x) (a.eval x):=by
 cases x with
 |tmp i=>exact r.get i
 |const v=>exact afD v
 |global g=>exact .az _
 |func f=>exact .fn f [] [] [] [] rfl rfl (λD aa=>by simp at aa) (λD aa=>by simp at aa)
theorem bX.one{v:E}{u:b1}(r:bX P m h v u)(J:v.one=O):u.oneCell'=O:=by cases r<;>simp_all [E.one,Value.oneCell']
theorem bX.cells{v:E}{u:b1}(r:bX P m h v u)(J:v.cells.all E.one=O):dT P m h v.cells u.cells.toList/\∀c∈u.cells.toList,c.oneCell'=O:=by
 have key:v.one=O->u.cells= #[u]->v.cells=[v]->dT P m h v.cells u.cells.toList/\∀c∈u.cells.toList,c.oneCell'=O:=by intro U bQ an;rw[bQ,an];refine⟨dT.cons r dT.nil,λc an=>?_⟩;simp at an;subst an;exact r.one U
 cases r with
 |az v=>simp[E.cells,E.one]at J
 |bU l b2 R ah=>simp[E.cells,E.one]at J
 |agg l b2 R ah=>
   refine⟨⟨by simpa[E.cells,Value.cells]using R,λD aa dv=>ah D aa (by simpa[Value.cells]using dv)⟩,λc an=>?_⟩;simp[Value.cells]at an;obtain⟨D,aa,rfl⟩:=List.getElem_of_mem an;have ef:D<l.length:=by omega
   simp only[E.cells,jq]at J;exact(ah D ef aa).one (J _ (iX ef))
 |_=>exact key rfl rfl rfl
theorem dZ.pure(hw:cc P m h w){v:E}(ao:(fB a.eval I).run P w= .ok (.value u) w)(U:bX P m h v u):dZ P m h a w I v h:=⟨m,w,u,.inl ao,Ext.refl _ _,hw,U,mv _ _⟩
theorem yi(g4:pM P){e:a6}{z:List E}(aN:kG P e=o z):∃i v,P.info? e=o i/\i.zero=o v/\z.length=P.cellsOf e/\v.cells.size=P.cellsOf e/\dT P m h z v.cells.toList/\(zeroValue e).run P w= .ok v w:=by
 unfold kG at aN;split at aN
 case isFalse=>cases aN
 rename_i bf;rcases af:P.info? e with _|i
 ·simp[af]at aN
 ·rcases U:i.zero with _|v
  ·simp[af,U]at aN
  ·simp only[af,U,c2,hF,hZ]at aN;have aC:=g4.zero e i v bf af U;have an:P.cellsOf e=i.size:=by simp[Program.cellsOf,af]
   have ao:dT P m h (zG v).cells v.cells.toList:=by
    unfold zG;split
    ·rename_i cs;exact⟨by simp[E.cells,Value.cells],λD aa dv=>by simpa[E.cells,Value.cells]using Hk _⟩
    ·rename_i di;have mw:=Hk (P:=P) (m:=m) (h:=h) v;have au:(ya v).cells=[ya v]:=by unfold ya;split<;>rfl
     have ax:v.cells= #[v]:=by
      unfold Value.cells;split
      ·rename_i cs;exact absurd rfl (di cs)
      ·rfl
     rw[au,ax];exact dT.cons mw dT.nil
   rw[aN]at ao;refine⟨i,v,rfl,U,?_,by rw[aC,an],ao,by simp[zeroValue,typeInfo,af,U]⟩;have:=ao.1;rw[Array.length_toList,aC]at this;rw[an];exact this.symm
theorem Tm(hw:cc P m h w)(e:a6){z:List E}{u:Array b1}(aN:dT P m h z u.toList)(aC:z.length=P.cellsOf e):∃a9,Ext m h a9 (h.push [z])/\cc P a9 (h.push [z]) (w.alloc (.cells u e))/\bX P a9 (h.push [z]) (.ptr h.n 0 0) (.pointer (o ⟨w.heap.size,0,ad⟩)):=by
 have bQ:u.size=z.length:=by simpa using aN.1
 obtain⟨a9,J,R,ah,aD,bo⟩:=hw.push (w.alloc (.cells u e)) e [z] u ((h9.refl _ w).alloc _) (kS.new w _ _) (by simp;omega) (by simp[aC]) (by
  intro i af D aa;have g9:i=0:=by simpa using af
  subst g9;have dv:D<z.length:=by simpa using aa
  refine⟨u[D]'(by omega),by simp,?_⟩;have:=aN.2 D dv (by simp;omega);simpa using this)
 refine⟨a9,J,R,?_⟩;have:=bX.ptr (P:=P) (m:=a9) (h:=h.push [z]) h.n 0 0 (by simp[ag.push]);rw[ah]at this;simpa using this
theorem afE(g4:pM P)(hw:cc P m h w)(e:a6)(aF:I.op= .alloc e){z:List E}(aN:kG P e=o z):dZ P m h a w I (.ptr h.n 0 0) (h.push [z]):=by obtain⟨i,v,af,U,am,aC,ao,lN⟩:=yi (m:=m) (h:=h) (w:=w) g4 aN;obtain⟨a9,J,R,ah⟩:=Tm hw e ao am;refine⟨a9,_,_,.inl ?_,J,R,ah,(mv _ _).alloc hw.size _⟩;simp[fB,aF,Instr.alloc,lN,newVar,newRow]
theorem afF(g4:pM P)(hw:cc P m h w)(e:a6)(aF:I.op= .alloc e){z:List E}(aN:kG P e=o z):dZ P m h a w I (.gc e h.n) (h.push [z]):=by
 obtain⟨i,v,af,U,am,aC,ao,lN⟩:=yi (m:=m) (h:=h) (w:=w) g4 aN;have bQ:v.cells.size=z.length:=by simpa using ao.1
 obtain⟨a9,J,R,ah,aD,bo⟩:=hw.push (w.alloc (.cells v.cells e)) e [z] v.cells ((h9.refl _ w).alloc _) (kS.new w _ _) (by simp;omega) (by simp[am]) (by
  intro i af D aa;have g9:i=0:=by simpa using af
  subst g9;have dv:D<z.length:=by simpa using aa
  refine⟨v.cells[D]'(by omega),by simp,?_⟩;have:=ao.2 D dv (by simp;omega);simpa using this)
 have aH:=bX.gc (P:=P) (m:=a9) (h:=h.push [z]) e h.n (by simp[ag.push]) aD;rw[ah]at aH;refine⟨a9,_,_,.inl ?_,J,R,aH,(mv _ _).alloc hw.size _⟩;simp[fB,aF,Instr.alloc,lN,newVar,newRow]
theorem afG(hw:cc P m h w)(a3:dY P m h t a.tmps)(e:a6)(x:gy)(aF:I.op= .box e x)(J:(bD t x).cells.all E.one=O)(R:(bD t x).cells.length=dl P e):dZ P m h a w I (.ptr h.n 0 0) (h.push [(bD t x).cells]):=by obtain⟨ah,aD⟩:=(hv a3 x).cells J;obtain⟨a9,bo,b9,c4⟩:=Tm hw e ah R;refine⟨a9,_,_,.inl ?_,bo,b9,c4,(mv _ _).alloc hw.size _⟩;simp[fB,aF,Instr.box,newVar,newRow]
theorem afH(hw:cc P m h w)(a3:dY P m h t a.tmps)(e:a6)(x:gy)(aF:I.op= .box e x)(J:(bD t x).cells.all E.one=O)(R:(bD t x).cells.length=dl P e):dZ P m h a w I (.gc e h.n) (h.push [(bD t x).cells]):=by
 obtain⟨ah,aD⟩:=(hv a3 x).cells J;have bQ:(a.eval x).cells.size=(bD t x).cells.length:=by simpa using ah.1
 have R:(bD t x).cells.length=P.cellsOf e:=R;obtain⟨a9,cE,c6,eb,dx,gW⟩:=hw.push (w.alloc (.cells (a.eval x).cells e)) e [(bD t x).cells] (a.eval x).cells ((h9.refl _ w).alloc _) (kS.new w _ _) (by simp;omega) (by simp[R]) (by
  intro i af D aa;have g9:i=0:=by simpa using af
  subst g9;have dv:D<(bD t x).cells.length:=by simpa using aa
  refine⟨(a.eval x).cells[D]'(by omega),by simp,?_⟩;have:=ah.2 D dv (by simp;omega);simpa using this)
 have aH:=bX.gc (P:=P) (m:=a9) (h:=h.push [(bD t x).cells]) e h.n (by simp[ag.push]) dx;rw[eb]at aH;refine⟨a9,_,_,.inl ?_,cE,c6,aH,(mv _ _).alloc hw.size _⟩;simp[fB,aF,Instr.box,newVar,newRow]
theorem Mr(ty:a6)(a7:P.underlying ty=o d):(isAgg ty).run P w= .ok (kv P ty) w:=by unfold isAgg kv;simp only[iA,jz a7,ij,a7];cases d<;>simp
theorem Tn(hw:cc P m h w){b i:Nat}{e:List E}(ao:h.row b i=o e):∃ae:Nat->b1,∀D (aa:D<e.length),w.cell? ⟨m.cm b,i*P.cellsOf (m.hg b)+D,ad⟩=o (ae D)/\bX P m h e[D] (ae D):=by
 unfold ag.row at ao;rcases an:h.cell b with _|es
 ·simp[an]at ao
 ·simp only[an,c2]at ao;obtain⟨af,rfl⟩:=fQ.1 ao;obtain⟨cs,J,R,ah,aD,bo⟩:=hw.live b es an;refine⟨λD=>(cs[i*P.cellsOf (m.hg b)+D]?).getD gq,λD aa=>?_⟩;obtain⟨v,b9,c4⟩:=bo i af D aa;exact⟨by rw[J.cell];simp[b9],by simpa[b9]using c4⟩
theorem Hl(ty:a6)(a7:P.underlying ty=o d)(af:P.info? ty≠ad)(g I:Nat)(off:Nat)(e:List E)(ae:Nat->b1)(dt:∀D (aa:D<e.length),w.cell? ⟨g,I+D,ad⟩=o (ae D)/\bX P m h e[D] (ae D)){v:E}(U:gO (kv P ty) (dl P ty) e off=o v):∃u,(loadVar ty ⟨g,I+off,ad⟩).run P w= .ok u w/\bX P m h v u:=by
 unfold gO at U;unfold loadVar;simp only[iA,Mr ty a7,ij];cases uq:kv P ty
 ·simp only[uq,l9,if_false]at U ⊢;obtain⟨aa,rfl⟩:=fQ.1 U;obtain⟨J,R⟩:=dt off aa;exact⟨ae off,by simp[J],R⟩
 ·simp only[uq,if_true]at U ⊢;split at U
  ·rename_i hle;injection U with U;subst U;obtain⟨i,af⟩:=Option.ne_none_iff_exists'.1 af;have eJ:i.size=dl P ty:=by simp[dl,Program.cellsOf,af]
   have am:=run_loadCells (P:=P) w ⟨g,I+off,ad⟩ (dl P ty) (λD=>ae (off+D)) (λD aa=>by rw[qt];have:=(dt (off+D) (by omega)).1;rwa [qv]);refine⟨.agg ((i7 (dl P ty)).map λD=>ae (off+D)).toArray,?_,?_⟩
   ·simp[sizeOf,typeInfo,af,eJ,am]
   ·refine .agg _ _ (by simp;omega) (λD aa dv=>?_);simp only[List.getElem_map,List.getElem_range];have r2:D<dl P ty:=by simpa using dv
    have:=(dt (off+D) (by omega)).2;simpa[List.getElem_take,List.getElem_drop]using this
  ·cases U
theorem afI(hw:cc P m h w)(a3:dY P m h t a.tmps)(ty:a6)(x:gy)(aF:I.op= .load ty x)(a7:P.underlying ty=o d)(af:P.info? ty≠ad){v:E}(U:cS (kv P ty) (dl P ty) h (bD t x)=o v):dZ P m h a w I v h:=by
 have aw:=hv a3 x;have key:∃u,(Instr.loadAt ty (a.eval x)).run P w= .ok u w/\bX P m h v u:=by
  revert aw U;generalize a.eval x=Hm;generalize bD t x=ex;intro U aw;obtain⟨To,ur,di,am,_⟩:=aw.Mp;rw[<-am]at U;cases ur with
  |gc t b _ _=>exact absurd rfl (di t b)
  |ptr b i off ab=>
    simp only[cS]at U;rcases ao:h.row b i with _|e
    ·simp[ao]at U
    ·simp only[ao,c2]at U;obtain⟨ae,dt⟩:=Tn hw ao;obtain⟨u,J,R⟩:=Hl (w:=w) ty a7 af (m.cm b) (i*P.cellsOf (m.hg b)) off e ae dt U;exact⟨u,by simp[Instr.loadAt,Instr.sureAddr,J],R⟩
  |ip e off g fk ae eR mR=>simp only[cS]at U;obtain⟨u,J,R⟩:=Hl (w:=w) (h:=h) (m:=m) ty a7 af g fk off e ae (λD aa=>⟨hw.eo _ _ _ (eR D aa),mR D aa⟩) U;exact⟨u,by simp[Instr.loadAt,Instr.sureAddr,J],R⟩
  |_=>simp[cS]at U
 obtain⟨u,J,R⟩:=key;exact dZ.pure hw (by simp[fB,aF,J]) R
end
open Go Go.RowKit
theorem Ms{α:Type}(l cs:List α)(I:Nat)(h:I+cs.length<=l.length)(D:Nat):(l.take I++cs++l.drop (I+cs.length))[D]? =if I<=D/\D<I+cs.length then cs[D - I]? else l[D]? :=by
 by_cases J:D<I
 ·rw[if_neg (by omega),k',o4 (by simp;omega)];simp[J]
 ·by_cases R:D<I+cs.length
  ·rw[if_pos (by omega),k',mx (by simp;omega),o4 (by simp;omega)];congr 1;simp;omega
  ·rw[if_neg (by omega),mx (by simp;omega)];rw[List.getElem?_drop];congr 1;simp;omega
theorem o5{i n s:Nat}(h:i<n):i*s+s<=n*s:=by have:(i+1)*s<=n*s:=Nat.mul_le_mul_right s h;rw[Nat.add_mul]at this;omega
section
variable{P:cT}{m a9:eh}{h F:ag}{w ba:dy}{t:List E}{a:Act}{I:bh}
theorem afJ(hw:cc P m h w)(a3:dY P m h t a.tmps)(ty:a6)(x y:gy)(aF:I.op= .store ty x y)(af:P.info? ty≠ad)(U:eQ (dl P ty) h (bD t x) (bD t y)=o F):dZ P m h a w I .az F:=by
 have aw:=hv a3 x;have bE:=hv a3 y;obtain⟨i0,af⟩:=Option.ne_none_iff_exists'.1 af;have eJ:i0.size=dl P ty:=by simp[dl,Program.cellsOf,af]
 have key:∃ba,(Instr.storeAt ty (a.eval x) (a.eval y)).run P w= .ok () ba/\Ext m h m F/\cc P m F ba/\Below m.base w ba:=by
  revert aw U;generalize a.eval x=Hm;generalize bD t x=ex;intro U aw;obtain⟨To,ur,di,_,am⟩:=aw.Mp;rw[<-am]at U;cases ur with
  |gc t b _ _=>exact absurd rfl (di t b)
  |ptr b i off ab=>
    simp only[eQ]at U;rcases an:h.cell b with _|es
    ·simp[an]at U
    ·rcases ao:es[i]? with _|e
     ·simp[an,ao]at U
     ·simp only[an,ao,c2]at U;split at U
      ·rename_i ky;obtain⟨J,R,ah⟩:=ky;injection U with U;subst U;obtain⟨mS,iC⟩:=bE.cells J;obtain⟨cs,mT,nU,ut,afK,Mt⟩:=hw.live b es an;obtain⟨Hn,Mu⟩:=fQ.1 ao;have ke:e.length=P.cellsOf (m.hg b):=by rw[<-Mu];exact ut _ (iX Hn)
       generalize cO:P.cellsOf (m.hg b)=S at*;have BK:(a.eval y).cells.toList.length=dl P ty:=by rw[mS.1,R]
       have BL:(a.eval y).cells.size=dl P ty:=by simpa using BK
       have awV:=o5 (s:=S) Hn;have lN:=run_storeCells_at (P:=P) (m.cm b) (i*S+off) (m.hg b) (a.eval y).cells.toList 0 cs w mT (by rw[BK];omega) iC;have iY:h9 (λk=>k=m.cm b) w (w.setRow (m.cm b) (cs.toList.take (i*S+off+0)++(a.eval y).cells.toList++cs.toList.drop (i*S+off+0+(a.eval y).cells.toList.length)).toArray):=⟨rfl,rfl,rfl,by simp[World.setRow],λk _ Z=>setRow_other w _ k _ Z⟩;have hlen:((cs.toList.take (i*S+off+0)++(a.eval y).cells.toList++cs.toList.drop (i*S+off+0+(a.eval y).cells.toList.length)).toArray).size=cs.size:=by simp only[List.size_toArray,ff,pN,List.length_drop,Array.length_toList,BL];omega
       have afL:=setRow_heap w _ cs (cs.toList.take (i*S+off+0)++(a.eval y).cells.toList++cs.toList.drop (i*S+off+0+(a.eval y).cells.toList.length)).toArray _ _ mT;have afM:∀k,k<m.base->(w.setRow (m.cm b) (cs.toList.take (i*S+off+0)++(a.eval y).cells.toList++cs.toList.drop (i*S+off+0+(a.eval y).cells.toList.length)).toArray).heap[k]? =w.heap[k]? :=λk Z=>setRow_other w _ k _ (λe=>by have:=(hw.lt b es an).2;omega);generalize w.setRow (m.cm b) (cs.toList.take (i*S+off+0)++(a.eval y).cells.toList++cs.toList.drop (i*S+off+0+(a.eval y).cells.toList.length)).toArray=cY at*;refine⟨cY,by simp[Instr.storeAt,Instr.sureAddr,storeVar,sizeOf,typeInfo,af,eJ,BL,lN],?_⟩;obtain⟨jg,cH⟩:=hw.Hj an (gk:=es.set i (dh e off (bD t y).cells)) iY _ afL (by rw[hlen,nU]) (by
        intro r hG;rw[cO];rcases List.mem_or_eq_of_mem_set hG with aW|aW
        ·exact ut r aW
        ·rw[aW,dh];simp only[ff,pN,List.length_drop];omega) (by rw[hlen,cO,List.length_set];exact afK) (by
        intro ik eR D aa;rw[cO];have il:ik<es.length:=by simpa using eR
        simp only[List.getElem?_toArray];rw[Ms _ _ _ (by rw[BK];simp;omega)];by_cases au:ik=i
        ·subst au;have lo:(es.set ik (dh e off (bD t y).cells))[ik]=dh e off (bD t y).cells:=by simp
         have dv:D<(dh e off (bD t y).cells).length:=by rw[lo]at aa;exact aa
         have a8:(dh e off (bD t y).cells)[D]? =o (dh e off (bD t y).cells)[D]:=fr dv;have mU:(e.take off++(bD t y).cells++e.drop (off+(bD t y).cells.length))[D]? =o (dh e off (bD t y).cells)[D]:=a8;rw[Ms _ _ _ (by omega)]at mU;have Tp:∀v,bX P m h (dh e off (bD t y).cells)[D] v->bX P m h (es.set ik (dh e off (bD t y).cells))[ik][D] v:=by intro v U;simpa only[lo]using U
         by_cases ax:off<=D/\D<off+(bD t y).cells.length
         ·rw[if_pos ax]at mU;rw[if_pos (by rw[BK];omega)];obtain⟨u,my,la⟩:=mS.get? mU;refine⟨u,?_,Tp u la⟩;rw[<-my];congr 1;omega
         ·rw[if_neg ax]at mU;rw[if_neg (by rw[BK];omega)];obtain⟨afN,ul⟩:=fQ.1 mU;obtain⟨v,nV,hN⟩:=Mt ik il D (by rw[Mu];exact afN);refine⟨v,by simpa using nV,Tp v ?_⟩;rw[<-ul];simpa only[Mu]using hN
        ·have lo:(es.set i (dh e off (bD t y).cells))[ik]=es[ik]:=by simp[lP au]
         have dv:D<es[ik].length:=by rw[lo]at aa;exact aa
         have awW:D<S:=by rw[ut _ (iX il)]at dv;exact dv
         rw[if_neg (by
          rw[BK];rcases Nat.lt_or_gt_of_ne au with aW|aW
          ·have:=o5 (s:=S) aW;omega
          ·have:=o5 (s:=S) aW;omega)]
         obtain⟨v,nV,hN⟩:=Mt ik il D dv;exact⟨v,by simpa using nV,by simpa only[lo]using hN⟩)
       exact⟨jg,cH,⟨iY.os,iY.tape,iY.output,iY.size,afM⟩⟩
      ·cases U
  |_=>simp[eQ]at U
 obtain⟨ba,J,R,ah,aD⟩:=key;exact⟨m,ba,gq,.inr ⟨by simp[fB,aF,J],rfl⟩,R,ah,.az _,aD⟩
end
open Go Go.RowKit
section
variable{P:cT}{m a9:eh}{h F:ag}{w ba:dy}{t:List E}{a:Act}{I:bh}
theorem Tq(hw:cc P m h w)(a3:dY P m h t a.tmps)(x:gy)(aF:I.op= .move x\/I.op= .assign x):dZ P m h a w I (bD t x) h:=by refine dZ.pure hw (u:=a.eval x) ?_ (hv a3 x);rcases aF with aF|aF<;>simp[fB,aF]
theorem afO(hw:cc P m h w)(a3:dY P m h t a.tmps)(c x y:gy)(aF:I.op= .pick c x y){b:Bool}(ab:bD t c= .bool b):dZ P m h a w I (if b then bD t x else bD t y) h:=by
 have an:=hv a3 c;rw[ab]at an;obtain⟨u,bQ⟩:∃u,a.eval c=u:=⟨_,rfl⟩;rw[bQ]at an;cases an;cases b
 ·exact dZ.pure hw (u:=a.eval y) (by simp[fB,aF,bQ,asBool]) (by simpa using hv a3 y)
 ·exact dZ.pure hw (u:=a.eval x) (by simp[fB,aF,bQ,asBool]) (by simpa using hv a3 x)
theorem afP(hw:cc P m h w)(a3:dY P m h t a.tmps)(x:gy)(aF:I.op= .nilCheck x){v:E}(U:bD t x=v)(Z:(match v with|.ptr .. |.gc .. |.ip .. |.fn .. |.iface .. =>O|_=>T)=O):dZ P m h a w I v h:=by have an:=hv a3 x;rw[U]at an;obtain⟨u,bQ⟩:∃u,a.eval x=u:=⟨_,rfl⟩;rw[bQ]at an;refine dZ.pure hw (u:=u) ?_ an;cases an<;>simp at Z<;>simp[fB,aF,bQ]
theorem afQ(hw:cc P m h w)(a3:dY P m h t a.tmps)(op:UnOp)(ty:a6)(x:gy)(aF:I.op= .unOp op ty x){v:E}(U:zI op (bD t x)=o v):dZ P m h a w I v h:=by
 have an:=hv a3 x;revert U an;obtain⟨u,bQ⟩:∃u,a.eval x=u:=⟨_,rfl⟩;rw[bQ];generalize bD t x=ex;intro U an;cases op<;>cases an<;>simp[zI]at U
 ·subst U;exact dZ.pure hw (u:=.int _ _) (by simp[fB,aF,bQ,Op.unary,Op.intArith]) (.int _ _)
 ·subst U;exact dZ.pure hw (u:=.bool _) (by simp[fB,aF,bQ,Op.unary]) (.bool _)
theorem afR(hw:cc P m h w)(a3:dY P m h t a.tmps)(src dst:a6)(x:gy)(aF:I.op= .convert src dst x){v:E}(aC:(P.underlying src).isNone=T)(U:yb (hW P dst) (bD t x)=o v):dZ P m h a w I v h:=by
 have an:=hv a3 x;revert U an;obtain⟨u,bQ⟩:∃u,a.eval x=u:=⟨_,rfl⟩;rw[bQ];generalize bD t x=ex;intro U an;obtain⟨iJ,Tr⟩:∃iJ,P.underlying src=o iJ:=Option.isSome_iff_exists.1 (by simpa[<-Option.not_isSome]using aC);unfold hW at U;rcases a7:P.underlying dst with _|Ho
 ·simp[a7,yb]at U
 ·rw[a7]at U;cases Ho<;>cases an<;>simp[yb]at U
  ·subst U;exact dZ.pure hw (u:=.int _ _) (by simp only[fB,aF,bQ,convert,iA,jz Tr,jz a7,ij];cases iJ<;>simp[Conv.intToInt]<;>rfl) (.int _ _)
  ·subst U;exact dZ.pure hw (u:=.string _) (by simp only[fB,aF,bQ,convert,iA,jz Tr,jz a7,ij];cases iJ<;>simp<;>rfl) (.str _)
theorem Ts(hw:cc P m h w)(a3:dY P m h t a.tmps)(ty:a6)(x:gy)(aF:I.op= .makeInterface ty x)(aH:wM P ty=O):dZ P m h a w I (.iface ty (bD t x)) h:=by
 unfold wM at aH;rcases a7:P.underlying ty with _|d
 ·simp[a7]at aH
 ·refine dZ.pure hw (u:=.iface ty (a.eval x)) ?_ (.iface _ _ _ (hv a3 x));rw[a7]at aH;simp only[fB,aF,Instr.makeInterface,iA,jz a7,ij];cases d<;>simp at aH ⊢
theorem afS(hw:cc P m h w)(a3:dY P m h t a.tmps)(g:c')(first captured:Array gy)(aF:I.op= .makeFunc (.func g) first captured):dZ P m h a w I (.fn g (first.toList.map (bD t)) (captured.toList.map (bD t))) h:=by
 have J:=dT.map (P:=P) (m:=m) (h:=h) (f:=bD t) (g:=a.eval) (l:=first.toList) (λx _=>hv a3 x);have R:=dT.map (P:=P) (m:=m) (h:=h) (f:=bD t) (g:=a.eval) (l:=captured.toList) (λx _=>hv a3 x);refine dZ.pure hw (u:=.func (.func g) (first.toList.map a.eval).toArray (captured.toList.map a.eval).toArray) ?_ (.fn _ _ _ _ _ J.1 R.1 J.2 R.2);simp only[fB,aF,Instr.makeFunc,iA,lO,ij];have e:∀xs:Array gy,(xs.toList.map a.eval).toArray=xs.map a.eval:=λxs=>by apply Array.ext';simp
 rw[e,e]
theorem afT(hw:cc P m h w)(a3:dY P m h t a.tmps)(x:gy)(i:Nat)(aF:I.op= .extract x i){bA:List E}{v:E}(U:bD t x= .bU bA)(af:bA[i]? =o v):dZ P m h a w I v h:=by
 have an:=hv a3 x;rw[U]at an;obtain⟨u,bQ⟩:∃u,a.eval x=u:=⟨_,rfl⟩;rw[bQ]at an;cases an with
 |bU _ b2 J ah=>obtain⟨y,DF,DG⟩:=dT.get? (l:=bA) (b2:=b2) ⟨J,ah⟩ af;exact dZ.pure hw (u:=y) (by simp[fB,aF,bQ,Instr.extract,DF]) DG
theorem afU(hw:cc P m h w)(a3:dY P m h t a.tmps)(x:gy)(DH aS:a6)(ok:Bool)(aF:I.op= .typeAssert x DH aS ok){v:E}(U:bD t x= .iface aS v)(aH:wM P aS=O):dZ P m h a w I (if ok then .bU [v,.bool O]else v) h:=by
 have an:=hv a3 x;rw[U]at an;obtain⟨u,bQ⟩:∃u,a.eval x=u:=⟨_,rfl⟩;rw[bQ]at an;unfold wM at aH;rcases a7:P.underlying aS with _|d
 ·simp[a7]at aH
 ·rw[a7]at aH;cases an with
  |iface _ _ bs J=>
    cases ok
    ·refine dZ.pure hw (u:=bs) ?_ J;simp only[fB,aF,bQ,Instr.typeAssert,iA,jz a7,ij];cases d<;>simp at aH ⊢
    ·refine dZ.pure hw (u:=.tuple [bs,.bool O].toArray) ?_ ?_
     ·simp only[fB,aF,bQ,Instr.typeAssert,iA,jz a7,ij];cases d<;>simp at aH ⊢
     ·have:=dT.cons J (dT.cons (bX.bool O) dT.nil);exact .bU _ _ this.1 this.2
theorem ra{q:a6}(aW:dl P q≠0):∃i,P.info? q=o i/\i.size=dl P q:=by
 unfold dl Program.cellsOf at*;rcases af:P.info? q with _|i
 ·simp[af]at aW
 ·exact⟨i,rfl,by simp⟩
theorem Tt{q:a6}(a7:P.underlying q=o d):∃i,P.info? q=o i:=by
 unfold Program.underlying at a7;rcases af:P.info? q with _|i
 ·simp[af]at a7
 ·exact⟨i,rfl⟩
theorem Tu{s:a6}{f:Nat}{q:Nat×a6}(aW:((sX P s).bind (·[f]?))=o q):∃dD uu,P.underlying s=o (.struct dD)/\dD[f]? =o uu/\uu.offset=q.1/\uu.type=q.2:=by
 unfold sX at aW;split at aW
 ·rename_i dD vA;simp at aW;obtain⟨uu,J,R⟩:=aW;exact⟨dD,uu,vA,J,by rw[<-R],by rw[<-R]⟩
 ·simp at aW
theorem afV(hw:cc P m h w)(a3:dY P m h t a.tmps)(s:a6)(x:gy)(f:Nat)(aF:I.op= .fieldAddr s x f){q:Nat×a6}(aW:((sX P s).bind (·[f]?))=o q)(aN:dl P q.2≠0){v:E}(U:b5 q.1 (bD t x)=o v):dZ P m h a w I v h:=by
 obtain⟨dD,uu,J,R,ah,aD⟩:=Tu aW;obtain⟨i0,g9,iK⟩:=ra aN;have an:=hv a3 x;revert U an;obtain⟨u,bQ⟩:∃u,a.eval x=u:=⟨_,rfl⟩;rw[bQ];generalize bD t x=ex;intro U an;have run:∀g off,(fB a.eval I).run P w= .ok (.value (.pointer (o ⟨g,off+q.1,ad⟩))) w\/u≠.pointer (o ⟨g,off,ad⟩):=by
  intro g off;by_cases Tv:u= .pointer (o ⟨g,off,ad⟩)
  ·left;subst Tv;simp only[fB,aF,bQ,Instr.fieldAt,iA,jz J,ij,R,Instr.sureAddr,lO,fieldPlace,aD,sizeOf,typeInfo,run_program,g9,iK,aN,if_false,ah,qt]
  ·exact .inr Tv
 cases an<;>simp[b5]at U
 ·rename_i b i off ab;subst U;refine dZ.pure hw (u:=.pointer (o ⟨m.cm b,i*P.cellsOf (m.hg b)+(off+q.1),ad⟩)) ?_ (.ptr b i _ ab);have:=(run (m.cm b) (i*P.cellsOf (m.hg b)+off)).resolve_right (by simp);rwa [qv]at this
 ·rename_i dF b ab Mv;have:=(run (m.cm b) 0).resolve_right (by simp);rw[hH]at this;by_cases oz:q.1=0
  ·rw[if_pos oz]at U;subst U;rw[oz]at this;exact dZ.pure hw this (.gc _ b ab Mv)
  ·rw[if_neg oz]at U;subst U;have aH:=bX.ptr (P:=P) (m:=m) (h:=h) b 0 q.1 ab;rw[Nat.zero_mul,hH]at aH;exact dZ.pure hw this aH
 ·rename_i e off g fk ae af mR;subst U;refine dZ.pure hw (u:=.pointer (o ⟨g,fk+(off+q.1),ad⟩)) ?_ (.ip e _ g fk ae af mR);have:=(run g (fk+off)).resolve_right (by simp);rwa [qv]at this
end
open Go Go.RowKit
section
variable{P:cT}{m a9:eh}{h F:ag}{w ba:dy}{t:List E}{a:Act}{I:bh}
theorem Tw(ty:a6)(a7:P.underlying ty=o d)(aN:dl P ty≠0){cs:List E}{g3:List b1}(ao:dT P m h cs g3)(off:Nat){v:E}(U:gO (kv P ty) (dl P ty) cs off=o v):∃u,(part ty g3.toArray off).run P w= .ok u w/\bX P m h v u:=by
 obtain⟨i0,g9,iK⟩:=ra aN;unfold gO at U;unfold part;simp only[iA,Mr ty a7,ij];cases uq:kv P ty
 ·simp only[uq,l9,if_false]at U ⊢;obtain⟨u,J,R⟩:=ao.get? U;exact⟨u,by simp[J],R⟩
 ·simp only[uq,if_true]at U ⊢;split at U
  ·rename_i hle;injection U with U;subst U;refine⟨.agg ((g3.drop off).take (dl P ty)).toArray,?_,?_⟩
   ·simp[sizeOf,typeInfo,g9,iK]
   ·refine .agg _ _ (by simp[ao.1]) (λD aa dv=>?_);simp only[List.getElem_take,List.getElem_drop];exact ao.2 _ _ _
  ·cases U
theorem afW(hw:cc P m h w)(a3:dY P m h t a.tmps)(s:a6)(x:gy)(f:Nat)(aF:I.op= .field s x f){q:Nat×a6}(aW:((sX P s).bind (·[f]?))=o q)(aN:dl P q.2≠0)(la:P.underlying q.2≠ad){cs:List E}{v:E}(aw:bD t x= .agg cs)(U:gO (kv P q.2) (dl P q.2) cs q.1=o v):dZ P m h a w I v h:=by
 obtain⟨dD,uu,J,R,ah,aD⟩:=Tu aW;have an:=hv a3 x;rw[aw]at an;obtain⟨u,bQ⟩:∃u,a.eval x=u:=⟨_,rfl⟩;rw[bQ]at an;obtain⟨d,a7⟩:=Option.ne_none_iff_exists'.1 la;cases an with
 |agg _ b2 da eF=>obtain⟨gB,bH,bR⟩:=Tw (w:=w) q.2 a7 aN (cs:=cs) (g3:=b2) ⟨da,eF⟩ q.1 U;refine dZ.pure hw (u:=gB) ?_ bR;simp[fB,aF,bQ,Instr.field,jz J,R,asAgg,ah,aD,bH]
theorem r3{e:a6}(he:kb P ty=o e):P.underlying ty=o (.slice e):=by
 unfold kb at he;split at he
 case isFalse=>cases he
 split at he
 ·rename_i dG J;injection he with he;rw[J,he]
 ·cases he
theorem wW(g4:pM P){e:a6}(he:kb P ty=o e):0<P.cellsOf e:=by
 have h:=he;unfold kb at h;split at h
 ·rename_i bf;exact g4.pos ty e bf (r3 he)
 ·cases h
theorem Tx{e:a6}{z:List E}(aN:kG P e=o z):e<P.types.size:=by
 unfold kG at aN;split at aN
 ·assumption
 ·cases aN
theorem Hp{q:Nat×a6}(he:q9 P ty=o q):P.underlying ty=o (.array q.1 q.2):=by
 unfold q9 at he;split at he
 ·rename_i n e J;injection he with he;rw[J,<-he]
 ·cases he
theorem afX(g4:pM P)(hw:cc P m h w)(a3:dY P m h t a.tmps)(ty:a6)(x bV:gy)(aF:I.op= .indexAddr ty x bV){v:E}(U:qp P ty (bD t x) (bD t bV)=o v):dZ P m h a w I v h:=by
 have an:=hv a3 x;have Z:=hv a3 bV;revert U an Z;obtain⟨u,bQ⟩:∃u,a.eval x=u:=⟨_,rfl⟩;obtain⟨DI,wX⟩:∃DI,a.eval bV=DI:=⟨_,rfl⟩;rw[bQ,wX];generalize bD t x=ex;generalize bD t bV=e8;intro U an Z;cases an with
 |nS e eP cap=>
   cases Z with
   |int zO k=>
     simp only[qp]at U;split at U
     ·simp at U
     ·cases U
   |_=>simp[qp]at U
 |b0 id e es g fk cap ae am af s4 jQ zP=>
   cases Z with
   |int zO k=>
     simp only[qp]at U;split at U
     ·rename_i ky;obtain⟨he,kU⟩:=ky;have ke:=r3 he;have nn:=wW g4 he;obtain⟨r,ao,U⟩:=dN.1 U;obtain⟨bf,qw⟩:=fQ.1 ao;obtain⟨i0,g9,iK⟩:=ra (P:=P) (q:=e) (by unfold dl;omega);have hlen:r.length=P.cellsOf e:=am r (qw ▸ iX bf);subst U;refine dZ.pure hw (u:=.pointer (o ⟨g,fk+k.toNat*P.cellsOf e+0,ad⟩)) ?_ (.ip r 0 g (fk+k.toNat*P.cellsOf e) (ae k.toNat) ?_ ?_)
      ·have Ty:k<(es.length:Int):=by omega
       have J:i0.size=P.cellsOf e:=iK;simp only[fB,aF,bQ,wX,Instr.indexAt,asIntOf,iA,lO,ij,jz ke,kU,Ty,and_self,if_true,sizeOf,typeInfo,run_program,g9,J,qt,Nat.add_zero]
      ·intro D aa;rw[qv];exact af k.toNat bf D (by omega)
      ·intro D aa;have:=s4 k.toNat bf D (by rw[qw];exact aa);simpa only[qw]using this
     ·cases U
   |_=>simp[qp]at U
 |bn b fk n e cap ab qx jQ aE kd=>
   cases Z with
   |int zO k=>
     simp only[qp]at U;split at U
     ·rename_i ky;obtain⟨he,kU,zQ⟩:=ky;have ke:=r3 he;have nn:=wW g4 he;obtain⟨i0,g9,iK⟩:=ra (P:=P) (q:=e) (by unfold dl;omega);injection U with U;subst U;have aH:=bX.ptr (P:=P) (m:=m) (h:=h) b (fk+k.toNat) 0 ab;rw[qx]at aH;refine dZ.pure hw (u:=.pointer (o ⟨m.cm b,(fk+k.toNat)*P.cellsOf e+0,ad⟩)) ?_ aH;have J:i0.size=P.cellsOf e:=iK;simp only[fB,aF,bQ,wX,Instr.indexAt,asIntOf,iA,lO,ij,jz ke,kU,zQ,and_self,if_true,sizeOf,typeInfo,run_program,g9,J,qt,Nat.add_zero,Nat.add_mul]
     ·cases U
   |_=>simp[qp]at U
 |ptr b i off ab=>
   cases Z with
   |int zO k=>
     simp only[qp]at U;obtain⟨q,aW,U⟩:=dK.1 U;split at U
     ·rename_i ky;obtain⟨aN,kU,zQ⟩:=ky;have zR:=Hp aW;obtain⟨i0,g9,iK⟩:=ra aN;injection U with U;subst U;have aH:=bX.ptr (P:=P) (m:=m) (h:=h) b i (off+k.toNat*dl P q.2) ab;refine dZ.pure hw (u:=_) ?_ aH;simp only[fB,aF,bQ,wX,Instr.indexAt,asIntOf,Instr.sureAddr,iA,lO,ij,jz zR,kU,zQ,and_self,if_true,sizeOf,typeInfo,run_program,g9,iK,qt,qv]
     ·cases U
   |_=>simp[qp]at U
 |ip e off g fk ae af s4=>
   cases Z with
   |int zO k=>
     simp only[qp]at U;obtain⟨q,aW,U⟩:=dK.1 U;split at U
     ·rename_i ky;obtain⟨aN,kU,zQ⟩:=ky;have zR:=Hp aW;obtain⟨i0,g9,iK⟩:=ra aN;injection U with U;subst U;have aH:=bX.ip (P:=P) (m:=m) (h:=h) e (off+k.toNat*dl P q.2) g fk ae af s4;refine dZ.pure hw (u:=_) ?_ aH;simp only[fB,aF,bQ,wX,Instr.indexAt,asIntOf,Instr.sureAddr,iA,lO,ij,jz zR,kU,zQ,and_self,if_true,sizeOf,typeInfo,run_program,g9,iK,qt,qv]
     ·cases U
   |_=>simp[qp]at U
 |_=>simp[qp]at U
theorem afY(l:List UInt8)(n:Nat):(⟨l.toArray⟩:ByteArray)[n]? =l[n]? :=by
 by_cases aE:n<l.length
 ·rw[ByteArray.getElem?_lt' _ _ (by simpa[ByteArray.size]using aE),fr aE];rfl
 ·rw[ByteArray.getElem?_ge' _ _ (by simpa[ByteArray.size]using aE),o3 (by omega)]
theorem afZ(hw:cc P m h w)(a3:dY P m h t a.tmps)(ty:a6)(x bV:gy)(aF:I.op= .index ty x bV){v:E}(U:wQ P ty (bD t x) (bD t bV)=o v):dZ P m h a w I v h:=by
 have an:=hv a3 x;have Z:=hv a3 bV;revert U an Z;obtain⟨u,bQ⟩:∃u,a.eval x=u:=⟨_,rfl⟩;obtain⟨DI,wX⟩:∃DI,a.eval bV=DI:=⟨_,rfl⟩;rw[bQ,wX];generalize bD t x=ex;generalize bD t bV=e8;intro U an Z;cases an with
 |str l=>
   cases Z with
   |int zO k=>
     simp only[wQ]at U;split at U
     ·rename_i ky;obtain⟨aC,kU⟩:=ky;obtain⟨c,vB,U⟩:=dN.1 U;subst U;unfold oY at aC;split at aC
      ·rename_i o6;refine dZ.pure hw (u:=.int .u8 c.toNat) ?_ (.int _ _);simp only[fB,aF,bQ,wX,Instr.index,asIntOf,iA,lO,ij,jz o6,kU,if_true,afY,vB]
      ·cases aC
     ·cases U
   |_=>simp[wQ]at U
 |agg cs b2 da eF=>
   cases Z with
   |int zO k=>
     simp only[wQ]at U;obtain⟨q,aW,U⟩:=dK.1 U;split at U
     ·rename_i ky;obtain⟨af0,aN,kU,zQ⟩:=ky;have zR:=Hp aW;obtain⟨i0,g9,iK⟩:=ra aN;obtain⟨d,a7⟩:=Option.isSome_iff_exists.1 af0;obtain⟨gB,bH,bR⟩:=Tw (w:=w) q.2 a7 aN (cs:=cs) (g3:=b2) ⟨da,eF⟩ _ U;refine dZ.pure hw (u:=gB) ?_ bR;simp only[fB,aF,bQ,wX,Instr.index,asIntOf,iA,lO,ij,jz zR,kU,zQ,and_self,if_true,sizeOf,typeInfo,run_program,g9,iK,bH]
     ·cases U
   |_=>simp[wQ]at U
 |_=>simp[wQ]at U
end
open Go Go.RowKit
section
variable{P:cT}{m a9:eh}{h F:ag}{w ba:dy}{t:List E}{a:Act}{I:bh}
theorem Hq(l:List UInt8):(⟨l.toArray⟩:ByteArray).size=l.length:=by show l.toArray.size=_;simp
theorem Tz(hw:cc P m h w)(a3:dY P m h t a.tmps)(ni:Bool)(x y:gy)(c:Call)(aF:I.op= .call c)(an:c.callee= .builtin (if ni then .max else .min))(aX:c.args= #[x,y]){v:E}(aE:yc ni (bD t x) (bD t y)=o v):dZ P m h a w I v h:=by
 have jh:=hv a3 x;have rb:=hv a3 y;revert aE jh rb;obtain⟨u,bQ⟩:∃u,a.eval x=u:=⟨_,rfl⟩;obtain⟨gB,mV⟩:∃u,a.eval y=u:=⟨_,rfl⟩;rw[bQ,mV];generalize bD t x=ex;generalize bD t y=wY;intro aE jh rb;unfold yc at aE;split at aE
 ·injection aE with aE;subst aE;cases jh;cases rb;obtain⟨callee,args,argTypes⟩:=c;simp only at an aX;subst an aX;cases ni
  ·refine dZ.pure hw (u:=.int _ _) ?_ (.int _ _);simp[fB,aF,bQ,mV,resolve,invoke,builtin,Builtin.min_,Builtin.min2]
  ·refine dZ.pure hw (u:=.int _ _) ?_ (.int _ _);simp[fB,aF,bQ,mV,resolve,invoke,builtin,Builtin.max_,Builtin.max2]
 ·cases aE
theorem af1(hw:cc P m h w)(a3:dY P m h t a.tmps)(x:gy)(ty:a6)(qy:List a6)(aF:I.op= .call {callee:=.builtin .len,args:= #[x],argTypes:=(ty::qy).toArray}){n:Nat}(bl:wN P ty (bD t x)=O)(aE:hX (bD t x)=o n):dZ P m h a w I (Hc n) h:=by
 have an:=hv a3 x;revert bl aE an;obtain⟨u,bQ⟩:∃u,a.eval x=u:=⟨_,rfl⟩;rw[bQ];generalize bD t x=ex;intro bl aE an;refine dZ.pure hw (u:=.int j n) ?_ (.int _ _);have pre:(fB a.eval I).run P w=((Builtin.len_ (ty::qy).toArray I.type #[u]).run P w).andThen λv ba=>.ok (.value v) ba:=by simp[fB,aF,resolve,invoke,builtin,bQ]
 rw[pre];cases an<;>simp[hX,wN]at bl aE
 ·subst aE;unfold oY at bl;split at bl
  ·rename_i a7;simp[Builtin.len_,jz a7,goInt,Hq]
  ·cases bl
 ·subst aE;unfold Hd at bl;obtain⟨e,he⟩:=Option.isSome_iff_exists.1 bl;simp[Builtin.len_,jz (r3 he),goInt]
 all_goals
  subst aE;simp[Builtin.len_,jz (r3 bl),goInt]
def BM:b1->b1->Bool
 |.nilIface,.nilIface=>T
 |.agg _,.agg _=>T
 |_,_=>O
theorem af2(op:BinOp)(ty:a6)(x y:gy)(u v:b1)(di:BM u v=O):(eqGuard op ty x y u v).run P w= .ok () w:=by cases op<;>first|rfl|(cases u<;>first|rfl|(cases v<;>first|rfl|simp[BM]at di))
theorem Hr(op:BinOp)(ty s5:a6)(x y:gy)(aF:I.op= .binOp op ty x y s5){v r:b1}(bQ:a.eval x=u)(U:a.eval y=v)(di:BM u v=O)(ao:(binOp op ty u v).run P w= .ok r w):(fB a.eval I).run P w= .ok (.value r) w:=by simp only[fB,aF,bQ,U,iA,af2 op ty x y u v di,ij,ao,lO]
theorem af3(op:BinOp)(ty:a6)(k dQ:gx)(x y:Int){v:E}(eI:jP)(U:en eI op (.int k x) (.int dQ y)=o v):∃r,(binOp op ty (.int k x) (.int dQ y)).run P w= .ok r w/\bX P m h v r:=by
 cases op
 case shl=>
  simp only[en]at U;split at U
  ·cases U
  ·rename_i aj;injection U with U;subst U;exact⟨_,by simp[binOp,Op.shift,aj],.int _ _⟩
 case shr=>
  simp only[en]at U;split at U
  ·cases U
  ·rename_i aj;injection U with U;subst U;exact⟨_,by simp[binOp,Op.shift,aj],.int _ _⟩
 case rem=>
  simp only[en]at U;split at U
  ·rename_i Z;subst Z;simp only[oZ]at U;split at U
   ·cases U
   ·rename_i aj;injection U with U;subst U;exact⟨_,by simp[binOp,Op.intDiv,aj],.int _ _⟩
  ·cases U
 all_goals
  simp only[en]at U;split at U
  ·rename_i Z;subst Z
   first
   |(simp only[oZ]at U;injection U with U;subst U;first
     |(refine⟨_,?_,.int _ _⟩;simp[binOp,Op.intArith];done)
     |(refine⟨_,?_,.int _ _⟩;simp[binOp,Op.intBits];done)
     |(refine⟨_,?_,.bool _⟩;simp[binOp,Op.intCmp];done))
   |(simp[oZ]at U)
  ·cases U
theorem af4(op:BinOp)(ty:a6)(x y:List UInt8){v:E}(eI:jP)(U:en eI op (.str x) (.str y)=o v):∃r,(binOp op ty (.string ⟨x.toArray⟩) (.string ⟨y.toArray⟩)).run P w= .ok r w/\bX P m h v r:=by
 cases op<;>simp only[en]at U<;>try (cases U;done)
 ·split at U
  ·rename_i hle;injection U with U;subst U;refine⟨.string ⟨(x++y).toArray⟩,?_,.str _⟩;have J:¬(j.max<(x.length:Int)+(y.length:Int)):=by simp[IntKind.max,IntKind.bits,IntKind.signed];omega
   have e:(⟨x.toArray⟩:ByteArray)++⟨y.toArray⟩=⟨(x++y).toArray⟩:=by apply ByteArray.ext;simp
   simp[binOp,Op.stringOp,Hq,e];omega
  ·cases U
 ·injection U with U;subst U;exact⟨_,by simp[binOp,Op.stringOp],.bool _⟩
 ·injection U with U;subst U;exact⟨_,by simp[binOp,Op.stringOp,bne],.bool _⟩
theorem ST(ty:a6){x y:E}{v:b1}{b:Bool}(ab:ov (hW P ty) x y=o b)(aw:bX P m h x u)(bE:bX P m h y v):BM u v=O/\(binOp .eql ty u v).run P w= .ok (.bool b) w/\(binOp .neq ty u v).run P w= .ok (.bool !b) w:=by
 have Z:(hW P ty= .bool\/hW P ty= .ptr\/hW P ty= .slice)\/(hW P ty= .func\/hW P ty= .iface):=by revert ab;generalize hW P ty=eI;intro ab;unfold ov at ab;split at ab<;>simp_all
 rcases Z with(Z|Z|Z)|(Z|Z)
 all_goals
  have a7:=Z;unfold hW at a7;rw[Z]at ab;split at a7<;>simp at a7
 all_goals
  rename_i nW;have kf:∀{u v:b1},BM u v=O->(∀d,(Op.equalIn (d+1) ty u v).run P w= .ok b w)->(∀op,op=BinOp.eql\/op=BinOp.neq->binOp op ty u v=(match op with|.eql=>(do pure (.bool (<-Op.equal ty u v)))|_=>(do pure (.bool (!(<-Op.equal ty u v)))):Sem b1))->BM u v=O/\(binOp .eql ty u v).run P w= .ok (.bool b) w/\(binOp .neq ty u v).run P w= .ok (.bool !b) w:=by
   intro u v J R ah;have aD:(Op.equal ty u v).run P w= .ok b w:=R 9999;refine⟨J,?_,?_⟩
   ·rw[ah _ (.inl rfl)];simp[aD]
   ·rw[ah _ (.inr rfl)];simp[aD]
  cases aw<;>simp[ov]at ab<;>cases bE<;>simp at ab<;>(try subst ab)<;>refine kf rfl (λd=>?_) (λop aF=>by rcases aF with rfl|rfl<;>rfl)<;>simp[Op.equalIn,jz nW]
end
open Go Go.RowKit
section
variable{P:cT}{m a9:eh}{h F:ag}{w ba:dy}{t:List E}{a:Act}{I:bh}
theorem af5{k:gx}(Z:hW P ty= .int k):P.underlying ty=o (.int k):=by unfold hW at Z;split at Z<;>simp at Z;rename_i J;rw[J,Z]
theorem af6(Z:hW P ty= .bool):P.underlying ty=o .bool:=by unfold hW at Z;split at Z<;>simp at Z;assumption
theorem af7(Z:hW P ty= .str):P.underlying ty=o .string:=by unfold hW at Z;split at Z<;>simp at Z;assumption
theorem TA(ty:a6)(a7:P.underlying ty=o d)(uq:kv P ty=T)(cs:List b1)(off:Nat)(bQ:cs[off]? =o u):(part ty cs.toArray off).run P w= .ok u w:=by unfold part;simp only[iA,Mr ty a7,ij,uq];simp[bQ]
theorem TB:∀(dD:List Field) (i d:Nat) (X Y:List E) (qz vC:List b1) (r:Bool),dT P m h X qz->dT P m h Y vC->(dD.zipIdx i).all (λ(f,i)=>f.name != "_"&&f.offset==i&&P.cellsOf f.type==1)=O->pH (dD.map λf=>hW P f.type) (X.drop i) (Y.drop i)=o r->(Op.eqFields (d+1) qz.toArray vC.toArray dD).run P w= .ok r w
 |[],i,d,X,Y,qz,vC,r,jg,DJ,bl,he=>by simp only[s2]at he;unfold pH at he;split at he<;>simp_all [Op.eqFields]
 |f::dD,i,d,X,Y,qz,vC,r,jg,DJ,bl,he=>by
   simp only[List.zipIdx_cons,pO,hx,bne_iff_ne,beq_iff_eq]at bl;obtain⟨⟨⟨aE,af8⟩,_⟩,Hs⟩:=bl;simp only[kT]at he;have step:∀(x y:E) (xs er:List E) (b bj:Bool),X.drop i=x::xs->Y.drop i=y::er->pH (dD.map λf=>hW P f.type) xs er=o bj->r=(b&&bj)->kv P f.type=T->(∃Ho,P.underlying f.type=o Ho)->(∀u v,bX P m h x u->bX P m h y v->(Op.equalIn (d+1) f.type u v).run P w= .ok b w)->(Op.eqFields (d+1) qz.toArray vC.toArray (f::dD)).run P w= .ok r w:=by
    intro x y xs er b bj ex wY Ht ao uq ⟨Ho,BN⟩ heq;have aw:X[i]? =o x:=by have:=congrArg (·[0]?) ex;simpa using this
    have bE:Y[i]? =o y:=by have:=congrArg (·[0]?) wY;simpa using this
    obtain⟨u,my,la⟩:=jg.get? aw;obtain⟨v,nV,hN⟩:=DJ.get? bE;have af9:X.drop (i+1)=xs:=by have:=congrArg (List.drop 1) ex;simpa using this
    have af':Y.drop (i+1)=er:=by have:=congrArg (List.drop 1) wY;simpa using this
    have aZ:=TB dD (i+1) d X Y qz vC bj jg DJ Hs (by rw[af9,af'];exact Ht);have dA:=TA (w:=w) f.type BN uq qz i my;have ft:=TA (w:=w) f.type BN uq vC i nV;simp only[Op.eqFields,aE,ne_eq,not_false_eq_true,if_true,af8,iA,dA,ft,ij,heq u v la hN];cases b
    ·simp[ao]
    ·simp[ao,aZ]
   generalize awX:X.drop i=awY at he step;generalize awZ:Y.drop i=aw0 at he step;unfold pH at he;split at he
   ·rename_i aW;simp at aW
   ·rename_i _ _ _ hy aT k eP xs dQ gz er au;injection au with au ax;split at he
    ·rename_i Hu;subst Hu;obtain⟨bj,J,R⟩:=dN.1 he;have o6:=af5 au;refine step _ _ _ _ (eP==gz) bj rfl rfl (by rw[ax];exact J) R.symm (by simp[kv,o6]) ⟨_,o6⟩ (λu v bQ U=>?_);cases bQ;cases U;simp[Op.equalIn,jz o6]
    ·cases he
   ·rename_i _ _ _ aT eP xs gz er au;injection au with au ax;obtain⟨bj,J,R⟩:=dN.1 he;have o6:=af6 au;refine step _ _ _ _ (eP==gz) bj rfl rfl (by rw[ax];exact J) R.symm (by simp[kv,o6]) ⟨_,o6⟩ (λu v bQ U=>?_);cases bQ;cases U;simp[Op.equalIn,jz o6]
   ·rename_i _ _ _ aT eP xs gz er au;injection au with au ax;obtain⟨bj,J,R⟩:=dN.1 he;have o6:=af7 au;refine step _ _ _ _ (eP==gz) bj rfl rfl (by rw[ax];exact J) R.symm (by simp[kv,o6]) ⟨_,o6⟩ (λu v bQ U=>?_);cases bQ;cases U;simp[run_equalIn_string,o6]
   ·cases he
theorem TC(hw:cc P m h w)(a3:dY P m h t a.tmps)(op:BinOp)(ty s5:a6)(x y:gy)(aF:I.op= .binOp op ty x y s5){xs er:List E}{aT:List jP}{b:Bool}{v:E}(aw:bD t x= .agg xs)(bE:bD t y= .agg er)(Z:vw P ty=o aT)(ab:pH aT xs er=o b)(h0:(op= .eql/\v= .bool b)\/(op= .neq/\v= .bool !b)):dZ P m h a w I v h:=by
 have J:=hv a3 x;have R:=hv a3 y;rw[aw]at J;rw[bE]at R;obtain⟨jr,my⟩:∃u,a.eval x=u:=⟨_,rfl⟩;obtain⟨jR,la⟩:∃u,a.eval y=u:=⟨_,rfl⟩;rw[my]at J;rw[la]at R;cases J with
 |agg _ cK aR a5=>
 cases R with
 |agg _ cX cg dw=>
 unfold vw at Z;split at Z
 ·rename_i dD vA;split at Z
  ·rename_i an;injection Z with Z;subst Z;simp only[hx,Bool.not_eq_true']at an;obtain⟨⟨aP,bu⟩,cd⟩:=an;have Hv:P.fieldsOf ty=dD:=by simp[Program.fieldsOf,vA]
   have o6:P.underlying ty=o (.struct (P.fieldsOf ty)):=by rw[Hv];exact vA
   have fX:(Op.equalIn 10000 ty (.agg cK.toArray) (.agg cX.toArray)).run P w= .ok b w:=by rw[show(10000:Nat)=9999+1 from rfl,run_equalIn_agg w 9999 ty _ _ o6 aP,Hv];exact TB dD.toList 0 9998 xs er cK cX b ⟨aR,a5⟩ ⟨cg,dw⟩ cd ab
   rcases h0 with⟨rfl,rfl⟩|⟨rfl,rfl⟩
   ·refine dZ.pure hw (u:=.bool b) ?_ (.bool _);simp only[fB,aF,my,la,iA,run_eqGuard_agg w _ _ _ _ _ _ bu,ij,run_eql_struct,fX,lO]
   ·refine dZ.pure hw (u:=.bool !b) ?_ (.bool _);simp only[fB,aF,my,la,iA,run_eqGuard_agg w _ _ _ _ _ _ bu,ij,run_neq_struct,fX,lO]
  ·cases Z
 ·cases Z
theorem TD(x:b1)(k:gx)(i:Int)(y:Nat)(c:BoundsCode)(aw:x= .int k i)(aj:0<=i)(J:i<=y):(Instr.sliceBound x y c).run P w= .ok i.toNat w:=by subst aw;simp[Instr.sliceBound,asIntOf,aj,J]
theorem DK(aga:Bool)(n cap:Nat)(ih af:Option gy)(a3:dY P m h t a.tmps){l r:Int}(am:zH (ih.map (bD t))=o l)(ao:BD n (af.map (bD t))=o r)(aj:0<=l)(J:l<=r)(R:r<=n)(ah:n<=cap):(Instr.sliceBounds aga n cap (ih.map a.eval) (af.map a.eval) ad).run P w= .ok (l.toNat,r.toNat,cap) w:=by
 have Hw:∀x,af=o x->∀(y:Nat) c,r<=(y:Int)->(Instr.sliceBound (a.eval x) y c).run P w= .ok r.toNat w:=by intro x Mw y c bE;subst Mw;have aw:=hv a3 x;simp only[hF]at ao;generalize bD t x=ex at ao aw;generalize a.eval x=Hm at aw;cases aw<;>simp[BD]at ao;subst ao;exact TD _ _ _ _ _ rfl (by omega) (by omega)
 have Hx:∀x,ih=o x->∀(y:Nat) c,l<=(y:Int)->(Instr.sliceBound (a.eval x) y c).run P w= .ok l.toNat w:=by intro x Mw y c bE;subst Mw;have aw:=hv a3 x;simp only[hF]at am;generalize bD t x=ex at am aw;generalize a.eval x=Hm at aw;cases aw<;>simp[zH]at am;subst am;exact TD _ _ _ _ _ rfl (by omega) (by omega)
 cases af with
 |none=>
   have hG:r.toNat=n:=by simp[BD]at ao;omega
   cases ih with
   |none=>
     have h1:l.toNat=0:=by simp[zH]at am;omega
     simp[Instr.sliceBounds,hG,h1]
   |some x=>simp[Instr.sliceBounds,hG,Hx x rfl n _ (by omega)]
 |some y=>
   cases ih with
   |none=>
     have h1:l.toNat=0:=by simp[zH]at am;omega
     simp[Instr.sliceBounds,h1,Hw y rfl cap _ (by omega)]
   |some x=>simp[Instr.sliceBounds,Hw y rfl cap _ (by omega),Hx x rfl r.toNat _ (by omega)]
theorem agb(J:oY P ty=O):P.underlying ty=o .string:=by
 unfold oY at J;split at J
 ·assumption
 ·cases J
theorem agc(J:Hd P ty=O):∃e,kb P ty=o e:=by unfold Hd at J;exact Option.isSome_iff_exists.1 J
theorem agd(g4:pM P)(hw:cc P m h w)(a3:dY P m h t a.tmps)(ty:a6)(x:gy)(ih af:Option gy)(aF:I.op= .slice ty x ih af ad)(bl:wN P ty (bD t x)=O){v:E}(U:wP (bD t x) (ih.map (bD t)) (af.map (bD t))=o v):dZ P m h a w I v h:=by
 have an:=hv a3 x;have key:∃l n r,zH (ih.map (bD t))=o l/\hX (bD t x)=o n/\BD n (af.map (bD t))=o r/\(0<=l/\l<=r/\r<=n)/\wO (bD t x) l r=o v:=by
  unfold wP at U;obtain⟨l,am,nV⟩:=dK.1 U;obtain⟨n,aE,hN⟩:=dK.1 nV;obtain⟨r,ao,yj⟩:=dK.1 hN;split at yj
  ·rename_i ky;exact⟨l,n,r,am,aE,ao,ky,yj⟩
  ·cases yj
 clear U;obtain⟨l,n,r,am,aE,ao,⟨aj,J,R⟩,U⟩:=key
 ·revert bl an aE U;obtain⟨u,bQ⟩:∃u,a.eval x=u:=⟨_,rfl⟩;rw[bQ];generalize bD t x=ex;intro bl an aE U;have pre:∀{d:TypeDesc},P.underlying ty=o d->(∀k e,d≠.array k e)->(fB a.eval I).run P w=((Instr.slice ty u (ih.map a.eval) (af.map a.eval) ad).run P w).andThen λv ba=>.ok (.value v) ba:=by intro d a7 di;simp only[fB,aF,bQ,Instr.sliceAt,iA,jz a7,ij,Option.map_none];cases d<;>first|rfl|exact absurd rfl (di _ _)
  cases an with
  |str s=>
    simp only[hX,hZ]at aE;simp only[wO,hZ]at U;subst aE;subst U
    ·have a7:=agb (P:=P) (ty:=ty) bl;refine dZ.pure hw (u:=.string ⟨((s.drop l.toNat).take (r.toNat - l.toNat)).toArray⟩) ?_ (.str _);rw[pre a7 (by simp)];simp only[Instr.slice,iA,jz a7,ij,Option.isSome_none,l9,if_false,Hq,lO];rw[DK T s.length s.length ih af a3 am ao aj J R (b4 _)];simp only[ij];congr 3;apply ByteArray.ext;simp[ByteArray.data_extract]
  |aA=>
    simp only[hX,hZ]at aE;simp only[wO,hZ]at U;subst aE;subst U
    ·obtain⟨e,TE⟩:=agc (P:=P) (ty:=ty) bl;have a7:=r3 TE;have nn:=wW g4 TE;obtain⟨i0,g9,iK⟩:=ra (P:=P) (q:=e) (by unfold dl;omega);have s6:l=0:=by omega
     have lb:r=0:=by omega
     refine dZ.pure hw (u:=.slice ad 0 0) ?_ .aA;rw[pre a7 (by simp)];simp only[Instr.slice,iA,jz a7,ij];rw[DK O 0 0 ih af a3 am ao aj J R (b4 _)];simp[s6,lb,sizeOf,typeInfo,g9]
  |nS e eP cap=>
    simp only[hX,hZ,gf]at aE;simp only[wO,hZ,List.drop_nil,List.take_nil]at U;subst aE;subst U;simp only[wN,beq_iff_eq]at bl;have a7:=r3 bl;have nn:=wW g4 bl;obtain⟨i0,g9,iK⟩:=ra (P:=P) (q:=e) (by unfold dl;omega);have s6:l=0:=by omega
    have lb:r=0:=by omega
    refine dZ.pure hw (u:=.slice (o eP) 0 cap) ?_ (.nS e eP cap);rw[pre a7 (by simp)];simp only[Instr.slice,iA,jz a7,ij];rw[DK O 0 cap ih af a3 am ao aj J R (mz _)];simp[s6,lb,sizeOf,typeInfo,g9,Addr.add]
  |b0 id e es g fk cap ae hle eR s4 jQ zP=>
    simp only[hX,hZ]at aE;simp only[wO,hZ]at U;subst aE;subst U;simp only[wN,beq_iff_eq]at bl;have a7:=r3 bl;have nn:=wW g4 bl;obtain⟨i0,g9,iK⟩:=ra (P:=P) (q:=e) (by unfold dl;omega);have il:i0.size=P.cellsOf e:=iK;have hlen:((es.drop l.toNat).take (r.toNat - l.toNat)).length=r.toNat - l.toNat:=by simp;omega
    have lN:(fB a.eval I).run P w= .ok (.value (.slice (o (if cap=l.toNat then⟨g,fk,ad⟩else⟨g,fk+l.toNat*P.cellsOf e,ad⟩)) (r.toNat - l.toNat) (cap - l.toNat))) w:=by
     rw[pre a7 (by simp)];simp only[Instr.slice,iA,jz a7,ij];rw[DK O es.length cap ih af a3 am ao aj J R jQ];simp only[ij,sizeOf,typeInfo,iA,run_program,g9,lO,il];by_cases kV:cap=l.toNat
     ·simp[kV]
     ·simp[kV,qt]
    obtain⟨bq,pP⟩:∃bq,(if cap=l.toNat then(⟨g,fk,ad⟩:Addr)else⟨g,fk+l.toNat*P.cellsOf e,ad⟩)=⟨g,bq,ad⟩/\(cap≠l.toNat->bq=fk+l.toNat*P.cellsOf e):=by
     by_cases kV:cap=l.toNat
     ·exact⟨fk,by simp[kV],λdi=>absurd kV di⟩
     ·exact⟨_,by simp[kV],λ_=>rfl⟩
    obtain⟨pP,age⟩:=pP;rw[pP]at lN;refine dZ.pure hw lN ?_;have kH:=bX.b0 (P:=P) (m:=m) (h:=h) ad e ((es.drop l.toNat).take (r.toNat - l.toNat)) g bq (cap - l.toNat) (λi D=>ae (l.toNat+i) D) (λq aW=>hle q (List.mem_of_mem_drop (List.mem_of_mem_take aW))) (by
     intro i TF D aa;rw[hlen]at TF;rw[age (by omega)];have:=eR (l.toNat+i) (by omega) D aa;rw[Nat.add_mul]at this;rw[<-this];congr 1;omega) (by
     intro i TF D aa;simp only[List.getElem_take,List.getElem_drop]at aa ⊢;exact s4 _ _ D aa) (by rw[hlen];omega) (λk Z=>by cases Z)
    rw[hlen]at kH;exact kH
  |bn b fk b' e cap ab qx jQ oA kd=>
    simp only[hX,hZ]at aE;simp only[wO]at U;subst aE;split at U
    ·rename_i s6;injection U with U;subst U;subst s6;simp only[wN,beq_iff_eq]at bl;have a7:=r3 bl;have nn:=wW g4 bl;obtain⟨i0,g9,iK⟩:=ra (P:=P) (q:=e) (by unfold dl;omega);refine dZ.pure hw (u:=.slice (o ⟨m.cm b,fk*P.cellsOf e,ad⟩) r.toNat cap) ?_ (.bn b fk r.toNat e cap ab qx jQ (by omega) kd);rw[pre a7 (by simp)];simp only[Instr.slice,iA,jz a7,ij];rw[DK O b' cap ih af a3 am ao aj J R oA];simp only[ij,sizeOf,typeInfo,iA,run_program,g9,lO];by_cases kV:cap=0
     ·simp[kV]
     ·simp[qt]
    ·cases U
  |_=>simp[wO]at U
end
open Go Go.RowKit
section
variable{P:cT}{m a9:eh}{h F:ag}{w ba:dy}{t:List E}{a:Act}{I:bh}
theorem TG(off:Nat)(v:b1)(cells:Array b1):(v.cells.zipIdx.foldl (λcs (x:b1×Nat)=>cs.setIfInBounds (off+x.2) x.1) cells).size=cells.size/\∀k,(v.cells.zipIdx.foldl (λcs (x:b1×Nat)=>cs.setIfInBounds (off+x.2) x.1) cells)[k]? =if off<=k/\k<off+v.cells.size/\k<cells.size then v.cells[k - off]? else cells[k]? :=by have:=Go.Great.foldl_set off v.cells.toList 0 cells;rw[<-Array.foldl_toList,Array.toList_zipIdx];simpa using this
theorem Mx(a3:dY P m h t a.tmps)(place:Nat->Option (Nat×Nat))(pl:List (Nat×Nat))(aH:∀i q,pl[i]? =o q->place i=o q):∀(L:List (Nat×gy)) (cs:List E) (cells:Array b1) (g3:List E),dT P m h cs cells.toList->pF pl cs (L.map λq=>(q.1,bD t q.2))=o g3->∃wZ,Instr.fill place cells (L.map λq=>(q.1,a.eval q.2))=o wZ/\dT P m h g3 wZ.toList
 |[],cs,cells,g3,ao,bl=>by simp[pF]at bl;subst bl;exact⟨cells,by simp[Instr.fill],ao⟩
 |(i,x)::L,cs,cells,g3,ao,bl=>by
   simp only[kT,pF]at bl;rcases My:pl[i]? with _|⟨off,size⟩
   ·simp[My]at bl
   ·simp only[My]at bl;split at bl
    ·rename_i an;obtain⟨aP,bu,cd⟩:=an;obtain⟨dL,cn⟩:=(hv a3 x).cells cd;have pQ:=dL.1;have vD:=ao.1;simp only[Array.length_toList]at pQ vD;obtain⟨f1,f2⟩:=TG off (a.eval x) cells;have hG:dT P m h (dh cs off (bD t x).cells) ((a.eval x).cells.zipIdx.foldl (λcs (y:b1×Nat)=>cs.setIfInBounds (off+y.2) y.1) cells).toList:=by
      refine⟨by rw[Array.length_toList,f1,dh];simp;omega,λD aa dv=>?_⟩;have a8:(cs.take off++(bD t x).cells++cs.drop (off+(bD t x).cells.length))[D]? =o (dh cs off (bD t x).cells)[D]:=fr aa;rw[Ms _ _ _ (by omega)]at a8;have o7:((a.eval x).cells.zipIdx.foldl (λcs (y:b1×Nat)=>cs.setIfInBounds (off+y.2) y.1) cells)[D]? =o (((a.eval x).cells.zipIdx.foldl (λcs (y:b1×Nat)=>cs.setIfInBounds (off+y.2) y.1) cells).toList[D]):=by rw[<-rc];exact fr dv
      rw[f2 D]at o7;by_cases gL:off<=D/\D<off+(bD t x).cells.length
      ·rw[if_pos gL]at a8;rw[if_pos ⟨gL.1,by omega,by omega⟩]at o7;obtain⟨u,jr,jR⟩:=dL.get? a8;rw[rc]at jr;rw[jr]at o7;injection o7 with o7;rw[<-o7];exact jR
      ·rw[if_neg gL]at a8;rw[if_neg (by omega)]at o7;obtain⟨u,jr,jR⟩:=ao.get? a8;rw[rc]at jr;rw[jr]at o7;injection o7 with o7;rw[<-o7];exact jR
     obtain⟨wZ,da,ch⟩:=Mx a3 place pl aH L _ _ g3 hG bl;refine⟨wZ,?_,ch⟩;simp only[kT,Instr.fill,aH i _ My];rw[if_neg (by simp;omega)];exact da
    ·cases bl
theorem TH(g4:pM P)(hw:cc P m h w)(a3:dY P m h t a.tmps)(ty:a6)(parts:Array (Nat×gy))(aF:I.op= .build ty parts){z:List E}(aN:kG P ty=o z){cs:List E}(U:(∃pl,sX P ty=o pl/\(∀q∈pl,dl P q.2≠0)/\pF (pl.map λq=>(q.1,dl P q.2)) z (parts.toList.map λq=>(q.1,bD t q.2))=o cs)\/(∃n e,q9 P ty=o (n,e)/\dl P e≠0/\pF ((i7 n).map λi=>(i*dl P e,dl P e)) z (parts.toList.map λq=>(q.1,bD t q.2))=o cs)):dZ P m h a w I (.agg cs) h:=by
 obtain⟨i,v,af,vE,am,aC,ao,lN⟩:=yi (m:=m) (h:=h) (w:=w) g4 aN;have key:∃cells,P.built ty (parts.map λ(i,x)=>(i,a.eval x)).toList=o cells/\dT P m h cs cells.toList:=by
  have agf:(parts.map λ(i,x)=>(i,a.eval x)).toList=parts.toList.map λq=>(q.1,a.eval q.2):=by simp
  rw[agf];unfold Program.built;rcases U with⟨pl,J,R,ah⟩|⟨n,e,J,R,ah⟩
  ·unfold sX at J;split at J
   ·rename_i dD vA;injection J with J;subst J;have jZ:dD.toList.mapM (λf=>(P.info? f.type).map λi=>(f.offset,i.size))=o (dD.toList.map λf=>(f.offset,dl P f.type)):=by
     have:∀l:List Field,(∀f∈l,dl P f.type≠0)->l.mapM (λf=>(P.info? f.type).map λi=>(f.offset,i.size))=o (l.map λf=>(f.offset,dl P f.type)):=by
      intro l;induction l with
      |nil=>intro _;rfl
      |cons f l aZ=>intro am;obtain⟨i0,g9,iK⟩:=ra (am f (by simp));simp[List.mapM_cons,g9,aZ (λg a8=>am g (by simp[a8])),iK]
     exact this _ (λf bl=>R (f.offset,f.type) (o8.2 ⟨f,bl,rfl⟩))
    simp only[List.map_map]at ah;obtain⟨cells,da,ch⟩:=Mx a3 (λx=>(dD.toList.map λf=>(f.offset,dl P f.type)).toArray[x]?) (dD.toList.map ((λq:Nat×a6=>(q.1,dl P q.2))∘λf=>(f.offset,f.type))) (λi q aW=>by simpa using aW) parts.toList z v.cells cs ao ah;refine⟨cells,?_,ch⟩;simp only[af,vA,vE,jZ];exact da
   ·cases J
  ·have zR:=Hp J;obtain⟨i0,g9,iK⟩:=ra R;obtain⟨cells,da,ch⟩:=Mx a3 (λi=>o (i*i0.size,i0.size)) ((i7 n).map λi=>(i*dl P e,dl P e)) (λi q aW=>by simp only[vF,dN]at aW;obtain⟨D,aa,rfl⟩:=aW;have:=fQ.1 aa;obtain⟨bf,TI⟩:=this;simp at TI;subst TI;rw[iK]) parts.toList z v.cells cs ao ah;refine⟨cells,?_,ch⟩;simp only[af,zR,vE,g9];exact da
 obtain⟨cells,J,R⟩:=key;refine dZ.pure hw (u:=.agg cells) ?_ ?_
 ·have e:=run_build (P:=P) w ty (parts.map λ(i,x)=>(i,a.eval x)) cells J;simp only[fB,aF,iA,e,ij,lO]
 ·have:=bX.agg (P:=P) (m:=m) (h:=h) cs cells.toList R.1 R.2;simpa using this
def Hy(P:cT)(m:eh)(h:ag)(eH:Nat)(es:List (List E))(cs:Array b1):Prop:=cs.size=es.length*eH/\(∀r∈es,r.length=eH)/\∀i (af:i<es.length) D (aa:D<es[i].length),∃v,cs[i*eH+D]? =o v/\bX P m h es[i][D] v
theorem TJ(a3:dY P m h t a.tmps)(eH:Nat):∀(L:List (Nat×gy)) (es:List (List E)) (cells:Array b1) (gk:List (List E)),Hy P m h eH es cells->pG eH es (L.map λq=>(q.1,bD t q.2))=o gk->∃wZ,Instr.fill (λi=>o (i*eH,eH)) cells (L.map λq=>(q.1,a.eval q.2))=o wZ/\Hy P m h eH gk wZ/\gk.length=es.length
 |[],es,cells,gk,ao,bl=>by simp[pG]at bl;subst bl;exact⟨cells,by simp[Instr.fill],ao,rfl⟩
 |(i,x)::L,es,cells,gk,ao,bl=>by
   simp only[kT,pG]at bl;split at bl
   ·rename_i an;obtain⟨aP,bu,cd⟩:=an;obtain⟨dL,cn⟩:=(hv a3 x).cells cd;have pQ:=dL.1;simp only[Array.length_toList]at pQ;obtain⟨bH,bR,hz⟩:=ao;have gL:=o5 (s:=eH) bu;obtain⟨f1,f2⟩:=TG (i*eH) (a.eval x) cells;have hG:Hy P m h eH (es.set i (bD t x).cells) ((a.eval x).cells.zipIdx.foldl (λcs (y:b1×Nat)=>cs.setIfInBounds (i*eH+y.2) y.1) cells):=by
     refine⟨by rw[f1,bH,List.length_set],λr ao=>?_,λik eR D aa=>?_⟩
     ·rcases List.mem_or_eq_of_mem_set ao with aW|aW
      ·exact bR r aW
      ·rw[aW,aP]
     ·rw[f2];have il:ik<es.length:=by simpa using eR
      by_cases au:ik=i
      ·subst au;have lo:(es.set ik (bD t x).cells)[ik]=(bD t x).cells:=by simp
       have dv:D<(bD t x).cells.length:=by rw[lo]at aa;exact aa
       rw[if_pos ⟨by omega,by omega,by omega⟩];obtain⟨u,jr,jR⟩:=dL.get? (fr dv);refine⟨u,by rw[<-jr,rc];congr 1;omega,?_⟩;simpa only[lo]using jR
      ·have lo:(es.set i (bD t x).cells)[ik]=es[ik]:=by simp[lP au]
       have dv:D<es[ik].length:=by rw[lo]at aa;exact aa
       have w0:D<eH:=by rw[bR _ (iX il)]at dv;exact dv
       rw[if_neg (by
        rcases Nat.lt_or_gt_of_ne au with aW|aW
        ·have:=o5 (s:=eH) aW;omega
        ·have:=o5 (s:=eH) aW;omega)]
       obtain⟨v,nV,hN⟩:=hz ik il D dv;exact⟨v,nV,by simpa only[lo]using hN⟩
    obtain⟨wZ,da,ch,eF⟩:=TJ a3 eH L _ _ gk hG bl;refine⟨wZ,?_,ch,by rw[eF,List.length_set]⟩;simp only[kT,Instr.fill];rw[if_neg (by simp;omega)];exact da
   ·cases bl
theorem cc.fresh(hw:cc P m h w)(ba:dy)(e:a6)(es:List (List E))(cs:Array b1)(cap:Nat)(aE:nm w ba)(s3:kS ba w.heap.size e cs)(aC:cs.size=cap*P.cellsOf e)(an:es.length<=cap)(kd:cap<=maxLen)(am:∀r∈es,r.length=P.cellsOf e)(U:∀i (af:i<es.length) D (aa:D<es[i].length),∃v,cs[i*P.cellsOf e+D]? =o v/\bX P m h es[i][D] v):∃a9,Ext m h a9 (h.fresh es.length)/\cc P a9 (h.fresh es.length) ba/\bX P a9 (h.fresh es.length) (.b0 (o h.ids) e es) (.slice (o ⟨w.heap.size,0,ad⟩) es.length cap):=by
 have Mz:∀I,m.eo w.heap.size I=ad:=λI=>by
  rcases af:m.eo w.heap.size I with _|v
  ·rfl
  ·have:=hw.r0 af;omega
 have aw:Ext m h {m with eo:=λg I=>if g=w.heap.size then(if I<es.length*P.cellsOf e then cs[I]? else ad)else m.eo g I,iB:=λk=>if k=h.ids then w.heap.size else m.iB k,pK:=λk=>if k=h.ids then cap else m.pK k,l8:=λk=>if k=h.ids then e else m.l8 k} (h.fresh es.length):=by
  refine⟨rfl,b4 _,by simp[ag.fresh],λb ab=>⟨rfl,rfl,rfl⟩,λg I v af=>?_,λk Z=>?_,λ_ _ h=>h⟩
  ·have:g≠w.heap.size:=λe=>by rw[e,Mz]at af;cases af
   simpa[this]using af
  ·have:k≠h.ids:=by omega
   simp[ag.fresh,this]
 have gA:=hw.new aE;have hle:es.length*P.cellsOf e<=cs.size:=by rw[aC];exact Nat.mul_le_mul_right _ an
 refine⟨_,aw,?_,?_⟩
 ·refine⟨gA.size,λb x ab=>gA.lt b x ab,λb x ab=>?_,λb gz x kc J R he=>gA.inj b gz x kc J R he,λg I v af=>?_,λb x ab I=>?_,λk Z=>?_,λk Z I r4=>?_,λk Z b x ab=>?_,λk dQ Z np he=>?_,gA.cG,λg x aa=>?_⟩
  ·obtain⟨bu,J,R,ah,aD,bo⟩:=gA.live b x ab;refine⟨bu,J,R,ah,aD,λi af D aa=>?_⟩;obtain⟨v,b9,c4⟩:=bo i af D aa;exact⟨v,b9,c4.ext aw⟩
  ·by_cases a8:g=w.heap.size
   ·subst a8;simp only[if_true]at af;split at af
    ·rw[s3.cell];exact af
    ·cases af
   ·simp only[a8,if_false]at af;exact gA.eo g I v af
  ·have:=hw.below ab;have di:m.cm b≠w.heap.size:=by omega
   simp only[di,if_false];exact gA.sep b x ab I
  ·by_cases kU:k=h.ids
   ·subst kU;simp only[if_true,ag.fresh];refine⟨cs.toList.take (es.length*P.cellsOf e),?_,.inr ⟨w.heap.size,cap,cs,rfl,hw.size,s3,an,kd,aC,rfl⟩⟩;simp;omega
   ·have BO:k<h.ids:=by simp[ag.fresh]at Z;omega
    simp only[kU,if_false,ag.fresh];exact gA.qu k BO
  ·by_cases kU:k=h.ids
   ·subst kU;simp only[if_true,ag.fresh]at r4 ⊢;rw[if_neg (by omega)]
   ·have BO:k<h.ids:=by simp[ag.fresh]at Z;omega
    simp only[kU,if_false,ag.fresh]at r4 ⊢;have:=(hw.r1 BO).2;rw[if_neg (by omega)];exact gA.o2 k BO I r4
  ·have re:=hw.below ab;by_cases kU:k=h.ids
   ·simp only[kU,if_true];omega
   ·have BO:k<h.ids:=by simp[ag.fresh]at Z;omega
    simp only[kU,if_false];exact gA.nT k BO b x ab
  ·by_cases J:k=h.ids<;>by_cases R:dQ=h.ids
   ·omega
   ·have:=(hw.r1 (k:=dQ) (by simp[ag.fresh]at np;omega)).2;simp[J,R]at he;omega
   ·have:=(hw.r1 (k:=k) (by simp[ag.fresh]at Z;omega)).2;simp[J,R]at he;omega
   ·simp[J,R]at he;exact hw.pL k dQ (by simp[ag.fresh]at Z;omega) (by simp[ag.fresh]at np;omega) he
  ·have bf:=hw.vy aa;obtain⟨aR,a5,bp,cA,et⟩:=gA.gd g x aa;refine⟨aR,a5,bp,λk Z=>?_,λI=>?_⟩
   ·by_cases kU:k=h.ids
    ·simp only[kU,if_true];omega
    ·simp only[kU,if_false];exact cA k (by simp[ag.fresh]at Z;omega)
   ·simp only[show ¬g=w.heap.size by omega,if_false];exact et I
 ·refine .b0 (o h.ids) e es w.heap.size 0 cap (λi D=>(cs[i*P.cellsOf e+D]?).getD gq) am (λi af D aa=>?_) (λi af D aa=>?_) an (λk Z=>?_)
  ·have:=o5 (s:=P.cellsOf e) af;simp only[if_true,hH];rw[if_pos (by omega)];obtain⟨v,J,_⟩:=U i af D (by rw[am _ (iX af)];exact aa);simp[J]
  ·obtain⟨v,J,R⟩:=U i af D aa;simp only[J,rf];exact R.ext aw
  ·injection Z with Z;subst Z;simp[ag.fresh]
theorem Fd(len eH:Nat)(z:List E)(v:Array b1)(aN:dT P m h z v.toList)(am:z.length=eH)(aH:0<eH):Hy P m h eH (al len z) ((Array.range (len*eH)).map (v[· % v.size]!)):=by
 have fl:v.size=eH:=by have:=aN.1;simp at this;omega
 refine⟨by simp,λr ao=>by rw[(List.mem_replicate.1 ao).2];exact am,λi af D aa=>?_⟩;simp only[List.getElem_replicate]at aa ⊢;have eR:i<len:=by simpa using af
 have:=o5 (s:=eH) eR;obtain⟨u,jr,jR⟩:=aN.get? (fr aa);refine⟨u,?_,jR⟩;have agh:(i*eH+D) % eH=D:=by rw[Nat.mul_comm,Nat.mul_add_mod];exact Nat.mod_eq_of_lt (by omega)
 rw[rc]at jr;have bf:i*eH+D<len*eH:=by omega
 simp only[Array.getElem?_map,fl];rw[Array.getElem?_eq_getElem (by simpa using bf)];simp only[Array.getElem_range,hF,agh];rw[getElem!_def,jr]
theorem cc.lay(hw:cc P m h w)(ba:dy)(e:a6)(es:List (List E))(cs:Array b1)(cap:Nat)(aE:nm w ba)(s3:kS ba w.heap.size e cs)(aC:cs.size=cap*P.cellsOf e)(an:es.length<=cap)(am:∀r∈es,r.length=P.cellsOf e)(U:∀i (af:i<es.length) D (aa:D<es[i].length),∃v,cs[i*P.cellsOf e+D]? =o v/\bX P m h es[i][D] v):∃a9,Ext m h a9 h/\cc P a9 h ba/\bX P a9 h (.b0 ad e es) (.slice (o ⟨w.heap.size,0,ad⟩) es.length cap):=by
 have Mz:∀I,m.eo w.heap.size I=ad:=λI=>by
  rcases af:m.eo w.heap.size I with _|v
  ·rfl
  ·have:=hw.r0 af;omega
 have aw:Ext m h {m with eo:=λg I=>if g=w.heap.size then(if I<es.length*P.cellsOf e then cs[I]? else ad)else m.eo g I} h:=by
  refine⟨rfl,b4 _,b4 _,λb ab=>⟨rfl,rfl,rfl⟩,λg I v af=>?_,λk Z=>⟨rfl,b4 _,λ_=>⟨rfl,rfl⟩⟩,λ_ _ h=>h⟩;have:g≠w.heap.size:=λe=>by rw[e,Mz]at af;cases af
  simpa[this]using af
 have gA:=hw.new aE;have hle:es.length*P.cellsOf e<=cs.size:=by rw[aC];exact Nat.mul_le_mul_right _ an
 refine⟨_,aw,?_,?_⟩
 ·refine⟨gA.size,λb x ab=>gA.lt b x ab,λb x ab=>?_,λb gz x kc J R he=>gA.inj b gz x kc J R he,λg I v af=>?_,λb x ab I=>?_,gA.qu,λk Z I r4=>?_,gA.nT,gA.pL,gA.cG,λg x aa=>?_⟩
  ·obtain⟨bu,J,R,ah,aD,bo⟩:=gA.live b x ab;refine⟨bu,J,R,ah,aD,λi af D aa=>?_⟩;obtain⟨v,b9,c4⟩:=bo i af D aa;exact⟨v,b9,c4.ext aw⟩
  ·by_cases a8:g=w.heap.size
   ·subst a8;simp only[if_true]at af;split at af
    ·rw[s3.cell];exact af
    ·cases af
   ·simp only[a8,if_false]at af;exact gA.eo g I v af
  ·have:=hw.below ab;have di:m.cm b≠w.heap.size:=by omega
   simp only[di,if_false];exact gA.sep b x ab I
  ·have:=(hw.r1 Z).2;simp only[show ¬m.iB k=w.heap.size by omega,if_false];exact gA.o2 k Z I r4
  ·have bf:=hw.vy aa;obtain⟨aR,a5,bp,cA,et⟩:=gA.gd g x aa;refine⟨aR,a5,bp,cA,λI=>?_⟩;simp only[show ¬g=w.heap.size by omega,if_false];exact et I
 ·refine .b0 ad e es w.heap.size 0 cap (λi D=>(cs[i*P.cellsOf e+D]?).getD gq) am (λi af D aa=>?_) (λi af D aa=>?_) an (λk Z=>by cases Z)
  ·have:=o5 (s:=P.cellsOf e) af;simp only[if_true,hH];rw[if_pos (by omega)];obtain⟨v,J,_⟩:=U i af D (by rw[am _ (iX af)];exact aa);simp[J]
  ·obtain⟨v,J,R⟩:=U i af D aa;simp only[J,rf];exact R.ext aw
theorem agi(g4:pM P)(hw:cc P m h w)(a3:dY P m h t a.tmps)(ty:a6)(len:Nat)(parts:Array (Nat×gy))(aF:I.op= .buildSlice ty len parts){e:a6}(he:kb P ty=o e){z:List E}(aN:kG P e=o z){es:List (List E)}(U:pG (dl P e) (al len z) (parts.toList.map λq=>(q.1,bD t q.2))=o es)(Hz:len*dl P e<=16777216):dZ P m h a w I (.bn h.n 0 len e) (h.push es)/\dZ P m h a w I (.b0 (o h.ids) e es) (h.fresh len)/\dZ P m h a w I (.b0 ad e es) h:=by
 have ke:=r3 he;have nn:=wW g4 he;obtain⟨i,v,af,vE,am,aC,ao,lN⟩:=yi (m:=m) (h:=h) (w:=w) g4 aN;have iK:i.size=P.cellsOf e:=by simp[Program.cellsOf,af]
 have oz:=Fd (P:=P) (m:=m) (h:=h) len (P.cellsOf e) z v.cells ao am nn;obtain⟨cells,da,ch,eF⟩:=TJ a3 (P.cellsOf e) parts.toList _ _ es oz U;simp only[List.length_replicate]at eF;have oB:(parts.map λ(i,x)=>(i,a.eval x)).toList=parts.toList.map λq=>(q.1,a.eval q.2):=by simp
 have ab:(Instr.buildSlice ty len (parts.map λ(i,x)=>(i,a.eval x))).run P w= .ok (.slice (o ⟨w.heap.size,0,ad⟩) len len) (w.alloc (.cells cells e)):=by
  by_cases hlen:len=0
  ·subst hlen;have lb:Array.range 0= #[]:=rfl;have agj:Instr.fill (λi=>o (i*P.cellsOf e,P.cellsOf e)) #[] (parts.toList.map λq=>(q.1,a.eval q.2))=o cells:=by rw[Nat.zero_mul,lb,Array.map_empty]at da;exact da
   simp only[Instr.buildSlice,iA,jz ke,ij,sizeOf,typeInfo,run_program,af,lO,iK,oB,Nat.zero_mul,lb,Nat.not_lt_zero,gt_iff_lt,if_false,if_true];simp[agj,newRow]
  ·have hmul:0<len*P.cellsOf e:=Nat.mul_pos (by omega) nn;have oC:=run_buildSlice (P:=P) w ty e len (parts.map λ(i,x)=>(i,a.eval x)) cells i v ke af vE (by rw[iK];unfold dl at Hz;omega) (by rw[iK];omega) (by rw[iK,oB];exact da);rw[oC]
 have MA:(fB a.eval I).run P w= .ok (.value (.slice (o ⟨w.heap.size,0,ad⟩) len len)) (w.alloc (.cells cells e)):=by simp only[fB,aF,iA,ab,ij,lO]
 obtain⟨HA,MB,MC⟩:=ch;have kd:len<=maxLen:=by have:len*1<=len*P.cellsOf e:=Nat.mul_le_mul_left _ nn;unfold maxLen dl at*;omega
 refine⟨?_,?_,?_⟩
 ·obtain⟨a9,J,R,ah,aD,bo⟩:=hw.push (w.alloc (.cells cells e)) e es cells ((h9.refl _ w).alloc _) (kS.new w _ _) (qA HA.symm) MB MC;refine⟨a9,_,_,.inl MA,J,R,?_,(mv _ _).alloc hw.size _⟩;have:=bX.bn (P:=P) (m:=a9) (h:=h.push es) h.n 0 len e len (by simp[ag.push]) aD (by rw[bo,HA,eF,hH]) (b4 _) kd;rw[ah]at this;simpa using this
 ·obtain⟨a9,J,R,ah⟩:=hw.fresh (w.alloc (.cells cells e)) e es cells len ((h9.refl _ w).alloc _) (kS.new w _ _) (by rw[HA,eF]) (by rw[eF];exact b4 _) kd MB MC;rw[eF]at J R ah;exact⟨a9,_,_,.inl MA,J,R,ah,(mv _ _).alloc hw.size _⟩
 ·obtain⟨a9,J,R,ah⟩:=hw.lay (w.alloc (.cells cells e)) e es cells len ((h9.refl _ w).alloc _) (kS.new w _ _) (by rw[HA,eF]) (by rw[eF];exact b4 _) MB MC;rw[eF]at ah;exact⟨a9,_,_,.inl MA,J,R,ah,(mv _ _).alloc hw.size _⟩
theorem agk(g4:pM P)(hw:cc P m h w)(a3:dY P m h t a.tmps)(ty:a6)(l c:gy)(aF:I.op= .makeSlice ty l c){e:a6}(he:kb P ty=o e){z:List E}(aN:kG P e=o z){cE c6:gx}{n:Int}(am:bD t l= .int cE n)(an:bD t c= .int c6 n)(aj:0<=n)(Hz:n<=100000):dZ P m h a w I (.bn h.n 0 n.toNat e) (h.push (al n.toNat z)):=by
 have ke:=r3 he;have nn:=wW g4 he;obtain⟨i,v,af,vE,h1,aC,ao,lN⟩:=yi (m:=m) (h:=h) (w:=w) g4 aN;have iK:i.size=P.cellsOf e:=by simp[Program.cellsOf,af]
 have dL:=hv a3 l;have cn:=hv a3 c;rw[am]at dL;rw[an]at cn;obtain⟨jr,my⟩:∃u,a.eval l=u:=⟨_,rfl⟩;obtain⟨jR,la⟩:∃u,a.eval c=u:=⟨_,rfl⟩;rw[my]at dL;rw[la]at cn;cases dL;cases cn;have um:=g4.small e i (Tx aN) af;have ab:(i.bytes:Int)*n<=281474976710656:=by have J:(i.bytes:Int)*n<=100000*100000:=Int.mul_le_mul (by omega) Hz aj (by omega);omega
 have oz:=Fd (P:=P) (m:=m) (h:=h) n.toNat (P.cellsOf e) z v.cells ao h1 nn;obtain⟨bH,bR,hz⟩:=oz;have TK:=run_make (P:=P) w ty e i v ke af vE cE c6 n n aj (Int.le_refl _) ab (by omega);have au:madeCells v.cells (n.toNat*i.size)=(Array.range (n.toNat*P.cellsOf e)).map (v.cells[· % v.cells.size]!):=by rw[iK];rfl
 rw[au]at TK;obtain⟨a9,J,R,ah,aD,bo⟩:=hw.push (w.alloc (.cells ((Array.range (n.toNat*P.cellsOf e)).map (v.cells[· % v.cells.size]!)) e)) e (al n.toNat z) _ ((h9.refl _ w).alloc _) (kS.new w _ _) (qA bH.symm) bR hz;refine⟨a9,_,.slice (o ⟨w.heap.size,0,ad⟩) n.toNat n.toNat,.inl ?_,J,R,?_,(mv _ _).alloc hw.size _⟩
 ·simp only[fB,aF,my,la,iA,TK,ij,lO]
 ·have:=bX.bn (P:=P) (m:=a9) (h:=h.push (al n.toNat z)) h.n 0 n.toNat e n.toNat (by simp[ag.push]) aD (by rw[bo,bH,List.length_replicate,hH]) (b4 _) (by unfold maxLen;omega);rw[ah]at this;simpa using this
end
open Go Go.RowKit
section
variable{P:cT}{m a9:eh}{h F:ag}{w ba:dy}{t:List E}{a:Act}{I:bh}
theorem MD(base:Nat)(t ty e:a6)(i:TypeInfo)(z:b1)(size bytes:Nat)(a3:P.underlying t=o (.slice e))(af:P.info? e=o i)(aN:i.zero=o z)(s1:i.size=size)(um:i.bytes=bytes)(DE:z.cells.size=size)(eJ:0<size)(v:b1)(n:Nat)(xs:List b1)(iW:w.ownsRow base e size v n xs)(a:Addr)(m c:Nat)(w1:0<m)(news:List b1)(am:news.length=m*size)(w2:∀D u,news[D]? =o u->w.cell? (a.add D)=o u)(J:∀u∈news,u.oneCell'=O)(wU:n+m<=maxLen)(zL:(n+m)*bytes<=140737488355328)(zM:base<=w.heap.size):∃g cap ba,(wV #[t,t] ty #[v,.slice (o a) m c]).run P w= .ok (.slice (o ⟨g,0,ad⟩) (n+m) cap) ba/\ba.ownsRow base e size (.slice (o ⟨g,0,ad⟩) (n+m) cap) (n+m) (xs++news)/\((v.ownBlock=o g/\h9 (λk=>k=g) w ba/\∃k,v= .slice (o ⟨g,0,ad⟩) n k)\/(g=w.heap.size/\nm w ba)):=by
 subst s1;subst um;have agl:n+m<=9223372036854775807:=by simp only[maxLen]at wU;omega
 have hlen:(xs++news).length=(n+m)*i.size:=by rw[ff,iW.1,am,Nat.add_mul]
 have grown:∀(fe:Nat),fe<n+m->(w.drew.alloc (.cells (xs.toArray++news.toArray++Builtin.zeroCells z.cells (grownCap w (n+m) fe e - (n+m))) e)).ownsRow base e i.size (.slice (o ⟨w.heap.size,0,ad⟩) (n+m) (grownCap w (n+m) fe e)) (n+m) (xs++news)/\nm w (w.drew.alloc (.cells (xs.toArray++news.toArray++Builtin.zeroCells z.cells (grownCap w (n+m) fe e - (n+m))) e)):=by
  intro fe aF;have ul:=grownCap_ge w (n+m) fe e;have zS:grownCap w (n+m) fe e<=maxLen:=grownCap_le_maxLen w (n+m) fe e wU;refine⟨⟨hlen,.inr ⟨w.heap.size,_,_,rfl,zM,heap_alloc_new w.drew _,ul,zS,?_,?_⟩⟩,⟨rfl,rfl,rfl,by simp,λk Z _=>heap_alloc_old w.drew _ Z⟩⟩
  ·simp only[Array.size_append,List.size_toArray,size_zeroCells,DE,iW.1,am,<-Nat.add_mul];congr 1;omega
  ·simp only[Array.toList_append,k'];rw[<-k',<-hlen];exact List.take_left
 rcases iW.2 with⟨rfl,rfl⟩|⟨g,cap,cur,rfl,ME,a8,wT,zS,o1,BI⟩
 ·have aw:xs=[]:=List.eq_nil_of_length_eq_zero (by simpa using iW.1);subst aw;have ao:=run_append_nil (P:=P) w t ty e i z a3 af aN a m c news am w2 (by omega) (by omega) (by have ab:=zL;simp only[hH]at ab;omega);have qB:=grown 0 (by omega);simp only[hH,lQ,Array.empty_append]at qB ⊢;exact⟨_,_,_,ao,qB.1,.inr ⟨rfl,qB.2⟩⟩
 ·by_cases BP:n+m<=cap
  ·have agm:n*i.size+news.length<=cur.size:=by rw[am,o1,<-Nat.add_mul];exact Nat.mul_le_mul_right _ BP
   have ao:=run_append_room (P:=P) w t ty e i a3 af g n cap cur a8 a m c news am w2 J BP agm;refine⟨_,_,_,ao,⟨hlen,.inr ⟨g,cap,_,rfl,ME,setRow_heap w g cur _ e _ a8,BP,zS,?_,?_⟩⟩,.inl ⟨rfl,⟨rfl,rfl,rfl,by simp,λk _ Z=>setRow_other w g k _ Z⟩,⟨_,rfl⟩⟩⟩
   ·simp only[List.size_toArray,ff,pN,List.length_drop,Array.length_toList];omega
   ·rw[BI,<-hlen];exact List.take_left
  ·have holds:∀D u,xs[D]? =o u->w.cell? ((⟨g,0,ad⟩:Addr).add D)=o u:=iW.cells (g:=g) rfl;have ao:=run_append_grow (P:=P) w t ty e i z a3 af aN ⟨g,0,ad⟩ n cap xs iW.1 holds a m c news am w2 (by omega) (by omega) (growslice_fits (by omega) zL);have qB:=grown cap (by omega);exact⟨_,_,_,ao,qB.1,.inr ⟨rfl,qB.2⟩⟩
def nX(P:cT)(m:eh)(h:ag)(eH:Nat)(es:List (List E))(l:List b1):Prop:=l.length=es.length*eH/\(∀r∈es,r.length=eH)/\∀i (af:i<es.length) D (aa:D<es[i].length),∃v,l[i*eH+D]? =o v/\bX P m h es[i][D] v
theorem nX.one{eH:Nat}{es:List (List E)}{l:List b1}(ao:nX P m h eH es l)(aH:0<eH)(J:es.all (·.all E.one)=O):∀u∈l,u.oneCell'=O:=by
 intro u bQ;obtain⟨k,Z,rfl⟩:=List.getElem_of_mem bQ;obtain⟨bH,bR,hz⟩:=ao;have af:k / eH<es.length:=Nat.div_lt_of_lt_mul (by rw[Nat.mul_comm,<-bH];exact Z);have aa:k % eH<es[k / eH].length:=by rw[bR _ (iX af)];exact Nat.mod_lt _ aH
 obtain⟨v,R,ah⟩:=hz _ af _ aa;have e:k / eH*eH+k % eH=k:=by rw[Nat.mul_comm];exact Nat.div_add_mod k eH
 rw[e,fr Z]at R;injection R with R;rw[R];simp only[jq]at J;exact ah.one (J _ (iX af) _ (iX aa))
theorem TL(hw:cc P m h w){e:a6}{x:E}(aw:bX P m h x u)(oA:x≠.aA){new:List (List E)}(aE:iT h e x=o new):∃pJ n c news,u= .slice (o pJ) n c/\n=new.length/\nX P m h (P.cellsOf e) new news/\∀D v,news[D]? =o v->w.cell? (pJ.add D)=o v:=by
 cases aw with
 |aA=>exact absurd rfl oA
 |nS dG eP cap=>
   simp only[iT]at aE;split at aE
   ·injection aE with aE;subst aE;exact⟨eP,0,cap,[],rfl,rfl,⟨by simp,by simp,λi af=>by simp at af⟩,λD v aa=>by simp at aa⟩
   ·cases aE
 |b0 id dG es g fk cap ae hle eR s4 jQ zP=>
   simp only[iT]at aE;split at aE
   ·rename_i he;subst he;injection aE with aE;subst aE;have agn:0<P.cellsOf dG\/P.cellsOf dG=0:=by omega
    refine⟨⟨g,fk,ad⟩,es.length,cap,(i7 (es.length*P.cellsOf dG)).map λk=>ae (k / P.cellsOf dG) (k % P.cellsOf dG),rfl,rfl,⟨by simp,hle,λi af D aa=>?_⟩,λD v aa=>?_⟩
    ·have w0:D<P.cellsOf dG:=by rw[<-hle _ (iX af)];exact aa
     have:=o5 (s:=P.cellsOf dG) af;have a7:(i*P.cellsOf dG+D) / P.cellsOf dG=i:=by rw[Nat.mul_comm,Nat.mul_add_div (by omega),Nat.div_eq_of_lt w0,Nat.add_zero]
     have hm:(i*P.cellsOf dG+D) % P.cellsOf dG=D:=by rw[Nat.mul_comm,Nat.mul_add_mod];exact Nat.mod_eq_of_lt w0
     refine⟨ae i D,?_,s4 i af D aa⟩;rw[vF,List.getElem?_range (by omega)];simp only[hF,a7,hm]
    ·simp only[vF,dN]at aa;obtain⟨k,Z,rfl⟩:=aa;obtain⟨bf,Hu⟩:=fQ.1 Z;simp at bf Hu;subst Hu;have aH:0<P.cellsOf dG:=by
      rcases agn with J|J
      ·exact J
      ·rw[J]at bf;omega
     have a7:D / P.cellsOf dG<es.length:=Nat.div_lt_of_lt_mul (by rw[Nat.mul_comm];exact bf);have hm:=Nat.mod_lt D aH;have:=hw.eo _ _ _ (eR _ a7 _ hm);rw[qt];have ax:D / P.cellsOf dG*P.cellsOf dG+D % P.cellsOf dG=D:=by rw[Nat.mul_comm];exact Nat.div_add_mod D _
     rwa [ax]at this
   ·cases aE
 |bn b fk b' dG cap ab qx jQ oA kd=>
   simp only[iT]at aE;split at aE
   ·rename_i he;subst he;obtain⟨es,ke,aE⟩:=dK.1 aE;split at aE
    ·rename_i hle;injection aE with aE;subst aE;obtain⟨cs,J,R,ah,aD,bo⟩:=hw.live b es ke;rw[qx]at J ah aD bo;have hm:(fk+b')*P.cellsOf dG<=es.length*P.cellsOf dG:=Nat.mul_le_mul_right _ hle;rw[Nat.add_mul]at hm;have hlen:((es.drop fk).take b').length=b':=by simp;omega
     refine⟨_,b',cap,(cs.toList.drop (fk*P.cellsOf dG)).take (b'*P.cellsOf dG),rfl,hlen.symm,⟨by rw[hlen];simp;omega,λr ao=>ah r (List.mem_of_mem_drop (List.mem_of_mem_take ao)),λi af D aa=>?_⟩,λD v aa=>?_⟩
     ·have iK:i<b'/\fk+i<es.length:=by simp at af;omega
      have au:((es.drop fk).take b')[i]=es[fk+i]'iK.2:=by simp
      have dv:D<es[fk+i].length:=by rw[<-au];exact aa
      have w0:D<P.cellsOf dG:=by rw[<-ah _ (iX iK.2)];exact dv
      obtain⟨v,dL,cn⟩:=bo (fk+i) iK.2 D dv;have TM:=o5 (s:=P.cellsOf dG) iK.1;refine⟨v,?_,by simpa using cn⟩;rw[uv (by omega),List.getElem?_drop,rc];rw[show fk*P.cellsOf dG+(i*P.cellsOf dG+D)=(fk+i)*P.cellsOf dG+D by rw[Nat.add_mul];omega];exact dL
     ·have bf:D<b'*P.cellsOf dG:=by have:=(fQ.1 aa).1;simp at this;omega
      rw[uv bf,List.getElem?_drop,rc]at aa;rw[qt,J.cell];exact aa
    ·cases aE
   ·cases aE
 |_=>simp[iT]at aE
theorem yk(ty:a6)(qy:List a6)(x y:gy)(aF:I.op= .call {callee:=.builtin .append,args:= #[x,y],argTypes:=(ty::qy).toArray}){v r:b1}(bQ:a.eval x=u)(U:a.eval y=v)(ao:(wV (ty::qy).toArray I.type #[u,v]).run P w= .ok r ba):(fB a.eval I).run P w= .ok (.value r) ba:=by simp only[fB,aF,resolve,invoke,builtin,iA,lO,ij,List.map_toArray,kT,s2,bQ,U,ao]
theorem ago(ty e:a6)(qy:List a6)(r5:P.underlying ty=o (.slice e))(af:P.info? e≠ad)(MF:qy=[ty])(DL:a6)(A:Option Addr)(n c:Nat)(wT:n<=c):(wV (ty::qy).toArray DL #[.slice A n c,.slice ad 0 0]).run P w= .ok (.slice A n c) w:=by subst MF;obtain⟨i,af⟩:=Option.ne_none_iff_exists'.1 af;cases A<;>simp[wV,jz r5,sizeOf,typeInfo,af,Builtin.lenOf,Builtin.firstCells,wT,storeCells]
theorem agp(ty e:a6)(qy:List a6)(r5:P.underlying ty=o (.slice e))(af:P.info? e≠ad)(MF:qy=[ty])(DL:a6)(A:Option Addr)(n c:Nat)(wT:n<=c)(pJ:Addr)(bu:Nat):(wV (ty::qy).toArray DL #[.slice A n c,.slice (o pJ) 0 bu]).run P w= .ok (.slice A n c) w:=by subst MF;obtain⟨i,af⟩:=Option.ne_none_iff_exists'.1 af;cases A<;>simp[wV,jz r5,sizeOf,typeInfo,af,Builtin.lenOf,Builtin.firstCells,wT,storeCells,loadCells,loadCellsFrom]
theorem agq(hw:cc P m h w){e:a6}{es:List (List E)}{xs:List b1}{g cap:Nat}(iW:w.ownsRow m.base e (P.cellsOf e) (.slice (o ⟨g,0,ad⟩) es.length cap) es.length xs)(am:∀r∈es,r.length=P.cellsOf e)(U:∀i (af:i<es.length) D (aa:D<es[i].length),∃v,w.cell? ⟨g,i*P.cellsOf e+D,ad⟩=o v/\bX P m h es[i][D] v):nX P m h (P.cellsOf e) es xs:=by
 refine⟨iW.1,am,λi af D aa=>?_⟩;have w0:D<P.cellsOf e:=by rw[<-am _ (iX af)];exact aa
 have:=o5 (s:=P.cellsOf e) af;have bf:i*P.cellsOf e+D<xs.length:=by rw[iW.1];omega
 obtain⟨v,J,R⟩:=U i af D aa;have ah:=iW.cells (g:=g) rfl (i*P.cellsOf e+D) xs[i*P.cellsOf e+D] (fr bf);rw[qt,hH,J]at ah;injection ah with ah;exact⟨v,by rw[fr bf,ah],R⟩
theorem nX.append{eH:Nat}{es dD:List (List E)}{l k:List b1}(J:nX P m h eH es l)(R:nX P m h eH dD k):nX P m h eH (es++dD) (l++k):=by
 obtain⟨aR,a5,bp⟩:=J;obtain⟨cg,dw,fW⟩:=R;refine⟨by simp[aR,cg,Nat.add_mul],λr ao=>?_,λi af D aa=>?_⟩
 ·rcases List.mem_append.1 ao with h|h
  ·exact a5 r h
  ·exact dw r h
 ·by_cases bf:i<es.length
  ·have au:(es++dD)[i]=es[i]:=List.getElem_append_left bf;have dv:D<es[i].length:=by rw[au]at aa;exact aa
   have w0:D<eH:=by rw[<-a5 _ (iX bf)];exact dv
   have:=o5 (s:=eH) bf;obtain⟨v,dL,cn⟩:=bp i bf D dv;exact⟨v,by rw[o4 (by omega)];exact dL,by simpa only[au]using cn⟩
  ·have il:i - es.length<dD.length:=by simp at af;omega
   have au:(es++dD)[i]=dD[i - es.length]:=List.getElem_append_right (by omega);have dv:D<dD[i - es.length].length:=by rw[au]at aa;exact aa
   have hle:es.length*eH<=i*eH:=Nat.mul_le_mul_right _ (by omega);obtain⟨v,dL,cn⟩:=fW _ il D dv;refine⟨v,?_,by simpa only[au]using cn⟩;rw[mx (by omega),<-dL];congr 1;rw[Nat.sub_mul];omega
theorem nX.take{eH:Nat}{es:List (List E)}{l:List b1}(J:nX P m h eH es l)(n:Nat)(aE:n<=es.length):nX P m h eH (es.take n) (l.take (n*eH)):=by
 obtain⟨aR,a5,bp⟩:=J;have hle:n*eH<=es.length*eH:=Nat.mul_le_mul_right _ aE;refine⟨by simp[aR,Nat.min_eq_left hle,Nat.min_eq_left aE],λr ao=>a5 r (List.mem_of_mem_take ao),λi af D aa=>?_⟩;have eR:i<n/\i<es.length:=by simp at af;omega
 have au:(es.take n)[i]=es[i]'eR.2:=by simp
 have dv:D<(es[i]'eR.2).length:=by rw[au]at aa;exact aa
 have w0:D<eH:=by rw[<-a5 _ (iX eR.2)];exact dv
 have:=o5 (s:=eH) eR.1;obtain⟨v,dL,cn⟩:=bp i eR.2 D dv;exact⟨v,by rw[uv (by omega)];exact dL,by simpa only[au]using cn⟩
end
open Go Go.RowKit
section
variable{P:cT}{m a9:eh}{h F:ag}{w ba:dy}{t:List E}{a:Act}{I:bh}
theorem cc.grown(hw:cc P m h w){k:Nat}(Z:k<h.ids){xs news:List b1}{n kg g cap:Nat}(aE:n=h.hw k)(w1:0<kg)(hold:w.ownsRow m.base (m.l8 k) (P.cellsOf (m.l8 k)) (.slice (o ⟨m.iB k,0,ad⟩) n (m.pK k)) n xs)(eJ:0<P.cellsOf (m.l8 k))(iW:ba.ownsRow m.base (m.l8 k) (P.cellsOf (m.l8 k)) (.slice (o ⟨g,0,ad⟩) (n+kg) cap) (n+kg) (xs++news))(a8:(g=m.iB k/\h9 (λq=>q=g) w ba)\/(g=w.heap.size/\nm w ba))(es:List (List E))(MG:nX P m h (P.cellsOf (m.l8 k)) es (xs++news))(ke:es.length=n+kg):∃a9,Ext m h a9 (h.grow k (n+kg))/\cc P a9 (h.grow k (n+kg)) ba/\bX P a9 (h.grow k (n+kg)) (.b0 (o k) (m.l8 k) es) (.slice (o ⟨g,0,ad⟩) (n+kg) cap)/\Below m.base w ba:=by
 subst aE;generalize fX:m.l8 k=e at*;generalize cO:P.cellsOf e=S at*;have MH:=hw.r1 Z;have BJ:∀I v,(xs++news)[I]? =o v->ba.cell? ⟨g,I,ad⟩=o v:=by intro I v aF;have:=iW.cells (g:=g) rfl I v aF;rwa [qt,hH]at this
 have agr:∀I v,xs[I]? =o v->w.cell? ⟨m.iB k,I,ad⟩=o v:=by intro I v aF;have:=hold.cells (g:=m.iB k) rfl I v aF;rwa [qt,hH]at this
 have rg:xs.length=h.hw k*S:=hold.1;have aw1:(xs++news).length=(h.hw k+kg)*S:=iW.1;have bf:h.hw k*S<(h.hw k+kg)*S:=by rw[Nat.add_mul];have:=Nat.mul_pos w1 eJ;omega
 have TN:∀fu I v,m.eo fu I=o v->(if fu=g/\I<(h.hw k+kg)*S then(xs++news)[I]? else m.eo fu I)=o v/\ba.cell? ⟨fu,I,ad⟩=o v:=by
  intro fu I v af;have an:=hw.eo _ _ _ af;by_cases au:fu=g
  ·subst au;rcases a8 with⟨fY,iY⟩|⟨fY,eK⟩
   ·have aF:I<h.hw k*S:=by
     rcases ox I (h.hw k*S)with J|J
     ·exact J
     ·have:=hw.o2 k Z I (by rw[fX,cO];exact J);rw[<-fY,af]at this;cases this
    have aw:xs[I]? =o v:=by have J:=fr (l:=xs) (i:=I) (by omega);have R:=agr I _ J;rw[<-fY,an]at R;injection R with R;rw[J,R]
    have r6:(xs++news)[I]? =o v:=by rw[o4 (by omega)];exact aw
    exact⟨by rw[if_pos ⟨rfl,by omega⟩];exact r6,BJ I v r6⟩
   ·have:=hw.r0 af;omega
  ·refine⟨by rw[if_neg (λbC=>au bC.1)];exact af,?_⟩;rcases a8 with⟨fY,iY⟩|⟨fY,eK⟩
   ·rw[World.cell?_of_block (w:=w) (iY.block _ (hw.r0 af) au)];exact an
   ·rw[World.cell?_of_block (w:=w) (eK.block _ (hw.r0 af) id)];exact an
 have aw:Ext m h {m with eo:=λfu I=>if fu=g/\I<(h.hw k+kg)*S then(xs++news)[I]? else m.eo fu I,iB:=λq=>if q=k then g else m.iB q,pK:=λq=>if q=k then cap else m.pK q} (h.grow k (h.hw k+kg)):=by
  refine⟨rfl,b4 _,b4 _,λb ab=>⟨rfl,rfl,rfl⟩,λfu I v af=>(TN fu I v af).1,λq aW=>⟨rfl,?_,λhe=>?_⟩,λ_ _ h=>h⟩
  ·by_cases au:q=k
   ·subst au;simp[ag.grow]
   ·simp[ag.grow,au]
  ·by_cases au:q=k
   ·subst au;simp[ag.grow]at he;omega
   ·simp[au]
 have s1:w.heap.size<=ba.heap.size:=by
  rcases a8 with⟨_,iY⟩|⟨_,eK⟩
  ·exact iY.size
  ·exact eK.size
 have s7:∀q,q<w.heap.size->q≠m.iB k->ba.heap[q]? =w.heap[q]? :=by
  intro q aW di;rcases a8 with⟨fY,iY⟩|⟨fY,eK⟩
  ·exact iY.block q aW (λe=>di (e.trans fY))
  ·exact eK.block q aW id
 have TO:m.base<=g:=by
  rcases a8 with⟨fY,_⟩|⟨fY,_⟩
  ·rw[fY];exact MH.1
  ·rw[fY];exact hw.size
 have TP:∀b x,h.cell b=o x->m.cm b≠g:=by
  intro b x ab;rcases a8 with⟨fY,_⟩|⟨fY,_⟩
  ·rw[fY];exact hw.nT k Z b x ab
  ·have:=hw.below ab;omega
 refine⟨_,aw,?_,?_,?_⟩
 ·refine⟨e7 hw.size s1,hw.lt,λb x ab=>?_,hw.inj,λfu I v af=>?_,λb x ab I=>?_,λq aW=>?_,λq aW I aF=>?_,λq aW b x ab=>?_,λq ek aW nq he=>?_,hw.cG.g2 hw.size λfu o7 bf=>s7 fu o7 (λe=>by have:=MH.1;omega),λD x aa=>?_⟩
  ·obtain⟨cs,aP,bu,cd,dU,gg⟩:=hw.live b x ab;refine⟨cs,(s7 _ aP.lt (hw.nT k Z b x ab)).trans aP,bu,cd,dU,λi af D aa=>?_⟩;obtain⟨v,dL,cn⟩:=gg i af D aa;exact⟨v,dL,cn.ext aw⟩
  ·simp only at af;split at af
   ·rename_i an;rw[an.1];exact BJ I v af
   ·exact(TN fu I v af).2
  ·simp only;rw[if_neg (λbC=>TP b x ab bC.1)];exact hw.sep b x ab I
  ·by_cases au:q=k
   ·subst au;refine⟨xs++news,?_⟩;simp only[if_true,ag.grow,fX,cO];exact iW
   ·obtain⟨er,bE⟩:=hw.qu q aW;refine⟨er,?_⟩;simp only[au,if_false,ag.grow];have di:m.iB q≠m.iB k:=λe=>au (hw.pL q k aW Z e);refine⟨bE.1,?_⟩;rcases bE.2 with J|⟨ch,s8,cur,ax,mU,MI,r⟩
    ·exact .inl J
    ·refine .inr ⟨ch,s8,cur,ax,mU,?_,r⟩;simp at ax;obtain⟨rfl,rfl⟩:=ax;exact(s7 _ (hw.r1 aW).2 di).trans MI
  ·by_cases au:q=k
   ·subst au;simp only[if_true,ag.grow,fX,cO]at aF ⊢;rw[if_neg (by omega)];rcases a8 with⟨fY,_⟩|⟨fY,_⟩
    ·rw[fY];exact hw.o2 q Z I (by rw[fX,cO];omega)
    ·rcases af:m.eo g I with _|v
     ·rfl
     ·have:=hw.r0 af;omega
   ·simp only[au,if_false,ag.grow]at aF ⊢;have di:m.iB q≠g:=by
     rcases a8 with⟨fY,_⟩|⟨fY,_⟩
     ·rw[fY];exact λe=>au (hw.pL q k aW Z e)
     ·have:=(hw.r1 aW).2;omega
    rw[if_neg (λbC=>di bC.1)];exact hw.o2 q aW I aF
  ·by_cases au:q=k
   ·simp only[au,if_true];exact TP b x ab
   ·simp only[au,if_false];exact hw.nT q aW b x ab
  ·have di:∀q,q<h.ids->q≠k->m.iB q≠g:=by
    intro q aW au;rcases a8 with⟨fY,_⟩|⟨fY,_⟩
    ·rw[fY];exact λe=>au (hw.pL q k aW Z e)
    ·have:=(hw.r1 aW).2;omega
   by_cases J:q=k<;>by_cases R:ek=k
   ·omega
   ·simp[J,R]at he;exact absurd he.symm (di ek nq R)
   ·simp[J,R]at he;exact absurd he (di q aW J)
   ·simp[J,R]at he;exact hw.pL q ek aW nq he
  ·obtain⟨aR,a5,bp,cA,et⟩:=hw.gd D x aa;have ef:=hw.vy aa;have HB:g≠D:=by
    rcases a8 with⟨fY,_⟩|⟨fY,_⟩
    ·rw[fY];exact cA k Z
    ·omega
   refine⟨aR,(s7 D ef (λe=>cA k Z e.symm)).trans a5,bp,λq aW=>?_,λI=>?_⟩
   ·by_cases au:q=k
    ·simp only[au,if_true];exact HB
    ·simp only[au,if_false];exact cA q aW
   ·simp only;rw[if_neg λbC=>HB bC.1.symm];exact et I
 ·obtain⟨bH,bR,hz⟩:=MG;have:=bX.b0 (P:=P) (m:={m with eo:=λfu I=>if fu=g/\I<(h.hw k+kg)*S then(xs++news)[I]? else m.eo fu I,iB:=λq=>if q=k then g else m.iB q,pK:=λq=>if q=k then cap else m.pK q}) (h:=h.grow k (h.hw k+kg)) (o k) e es g 0 cap (λi D=>((xs++news)[i*S+D]?).getD gq) (by rw[cO];exact bR) (λi af D aa=>by
    rw[cO]at aa ⊢;have:=o5 (s:=S) af;rw[ke]at this;simp only[hH];rw[if_pos ⟨trivial,by omega⟩,fr (by omega)];simp) (λi af D aa=>by
    obtain⟨v,dL,cn⟩:=hz i af D aa;rw[dL,rf];exact cn.ext aw) (by
    rw[ke];rcases iW.2 with⟨J,R⟩|⟨_,_,_,J,_,_,R,_⟩
    ·simp at J
    ·simp at J;obtain⟨rfl,rfl⟩:=J;exact R) (λq aW=>by
    injection aW with aW;subst aW;exact⟨Z,fX,by simp[ag.grow,ke],λ_=>by simp⟩)
  rw[ke]at this;exact this
 ·have ab:∀q,q<m.base->ba.heap[q]? =w.heap[q]? :=λq aW=>s7 q (by have:=hw.size;omega) (by have:=MH.1;omega);rcases a8 with⟨_,iY⟩|⟨_,eK⟩
  ·exact⟨iY.os,iY.tape,iY.output,iY.size,ab⟩
  ·exact⟨eK.os,eK.tape,eK.output,eK.size,ab⟩
theorem cc.TQ(hw:cc P m h w){b:Nat}{es:List (List E)}(ab:h.cell b=o es)(e:a6)(he:m.hg b=e){xs:List b1}{n g cap:Nat}(iW:ba.ownsRow m.base e (P.cellsOf e) (.slice (o ⟨g,0,ad⟩) n cap) n xs)(a8:(g=m.cm b/\h9 (λq=>q=g) w ba)\/(g=w.heap.size/\nm w ba))(dD:List (List E))(MG:nX P m h (P.cellsOf e) dD xs)(vA:dD.length=n):∃a9,Ext m h a9 ((h.set b ad).push dD)/\cc P a9 ((h.set b ad).push dD) ba/\bX P a9 ((h.set b ad).push dD) (.bn h.n 0 n e) (.slice (o ⟨g,0,ad⟩) n cap)/\Below m.base w ba:=by
 have aw:Ext m h {m with cm:=λq=>if q=h.n then g else m.cm q,hg:=λq=>if q=h.n then e else m.hg q,nR:=λq=>if q=h.n then cap*P.cellsOf e else m.nR q} ((h.set b ad).push dD):=⟨rfl,by simp[ag.push,ag.set],by simp[ag.push,ag.set],λq aW=>by simp[show q≠h.n by omega],λ_ _ _ h=>h,λk Z=>⟨rfl,b4 _,λ_=>⟨rfl,rfl⟩⟩,λ_ _ h=>h⟩;have s1:w.heap.size<=ba.heap.size:=by
  rcases a8 with⟨_,iY⟩|⟨_,eK⟩
  ·exact iY.size
  ·exact eK.size
 have s7:∀q,q<w.heap.size->q≠m.cm b->ba.heap[q]? =w.heap[q]? :=by
  intro q aW di;rcases a8 with⟨fY,iY⟩|⟨fY,eK⟩
  ·exact iY.block q aW (λe=>di (e.trans fY))
  ·exact eK.block q aW id
 have hE:=(hw.lt b es ab).1;have aw2:=hw.below ab;have w3:∀q x,((h.set b ad).push dD).cell q=o x->(q=h.n/\x=dD)\/(q≠h.n/\q≠b/\h.cell q=o x):=by
  intro q x aW;by_cases au:q=h.n
  ·left;subst au;simp[ag.push,ag.set]at aW;exact⟨rfl,aW.symm⟩
  ·right;by_cases ax:q=b
   ·simp[ag.push,ag.set,ax]at aW;subst ax;simp[au]at aW
   ·simp[ag.push,ag.set,au,ax]at aW;exact⟨au,ax,aW⟩
 have ags:∃cur,kS ba g e cur/\cur.size=cap*P.cellsOf e/\n<=cap/\cap<=maxLen/\cur.toList.take (n*P.cellsOf e)=xs/\m.base<=g:=by
  rcases iW.2 with⟨J,R⟩|⟨ch,s8,cur,J,R,ah,aD,bo,b9,c4⟩
  ·simp at J
  ·simp at J;obtain⟨rfl,rfl⟩:=J;exact⟨cur,ah,b9,aD,bo,c4,R⟩
 obtain⟨cur,agt,o1,TR,kd,BI,TO⟩:=ags;have di:∀q x,q≠b->h.cell q=o x->m.cm q≠g:=by
  intro q x BQ aW;rcases a8 with⟨fY,_⟩|⟨fY,_⟩
  ·rw[fY];exact λe=>BQ (hw.inj _ _ _ _ aW ab e)
  ·have:=hw.below aW;omega
 have agu:∀I,m.eo g I=ad:=by
  intro I;rcases a8 with⟨fY,_⟩|⟨fY,_⟩
  ·rw[fY];exact hw.sep b es ab I
  ·rcases af:m.eo g I with _|v
   ·rfl
   ·have:=hw.r0 af;omega
 obtain⟨bH,bR,hz⟩:=MG;refine⟨_,aw,?_,?_,?_⟩
 ·refine⟨e7 hw.size s1,λq x aW=>?_,λq x aW=>?_,λq ek x kc aW nq he=>?_,λfu I v af=>?_,λq x aW I=>?_,λk Z=>?_,λk Z=>hw.o2 k Z,λk Z q x aW=>?_,λk dQ Z np=>hw.pL k dQ Z np,hw.cG.g2 hw.size λfu o7 bf=>s7 fu o7 (λe=>by have:=(hw.lt b es ab).2;omega),λD x aa=>?_⟩
  ·rcases w3 q x aW with⟨rfl,rfl⟩|⟨au,ax,ah⟩
   ·simp[ag.push,ag.set,TO]
   ·have:=hw.lt q x ah;simp[ag.push,ag.set,au];omega
  ·rcases w3 q x aW with⟨rfl,rfl⟩|⟨au,ax,ah⟩
   ·refine⟨cur,by simpa using agt,by simp[o1],by simpa using bR,?_,λi af D aa=>?_⟩
    ·simp only[if_true];rw[vA,o1];exact Nat.mul_le_mul_right _ TR
    ·obtain⟨v,dL,cn⟩:=hz i af D aa;refine⟨v,?_,cn.ext aw⟩;simp only[if_true];rw[<-BI]at dL;have bf:=(fQ.1 dL).1;simp at bf;rw[uv (by omega)]at dL;rw[<-rc];exact dL
   ·obtain⟨cs,aP,bu,cd,dU,gg⟩:=hw.live q x ah;refine⟨cs,?_,by simpa[au]using bu,by simpa[au]using cd,by simpa[au]using dU,λi af D aa=>?_⟩
    ·simp only[au,if_false];exact(s7 _ aP.lt (λe=>ax (hw.inj _ _ _ _ ah ab e))).trans aP
    ·obtain⟨v,dL,cn⟩:=gg i af D aa;exact⟨v,by simpa[au]using dL,cn.ext aw⟩
  ·rcases w3 q x aW with⟨rfl,rfl⟩|⟨au,ax,ah⟩<;>rcases w3 ek kc nq with⟨rfl,rfl⟩|⟨f1,f2,f3⟩
   ·rfl
   ·simp[f1]at he;exact absurd he.symm (di _ _ f2 f3)
   ·simp[au]at he;exact absurd he (di _ _ ax ah)
   ·simp[au,f1]at he;exact hw.inj _ _ _ _ ah f3 he
  ·have o7:fu≠m.cm b:=λe=>by simp only at af;rw[e,hw.sep b es ab I]at af;cases af
   rw[World.cell?_of_block (w:=w) (s7 _ (hw.r0 af) o7)];exact hw.eo fu I v af
  ·rcases w3 q x aW with⟨rfl,rfl⟩|⟨au,ax,ah⟩
   ·simp only[if_true];exact agu I
   ·simp only[au,if_false];exact hw.sep q x ah I
  ·obtain⟨er,bE⟩:=hw.qu k Z;refine⟨er,bE.1,?_⟩;rcases bE.2 with J|⟨ch,s8,agv,ax,mU,MI,r⟩
   ·exact .inl J
   ·refine .inr ⟨ch,s8,agv,ax,mU,?_,r⟩;simp at ax;obtain⟨rfl,rfl⟩:=ax;exact(s7 _ (hw.r1 Z).2 (λe=>hw.nT k Z b es ab e.symm)).trans MI
  ·have agw:g≠m.iB k:=by
    rcases a8 with⟨fY,_⟩|⟨fY,_⟩
    ·rw[fY];exact hw.nT k Z b es ab
    ·have:=(hw.r1 Z).2;omega
   rcases w3 q x aW with⟨rfl,rfl⟩|⟨au,ax,ah⟩
   ·simpa using agw
   ·simp only[au,if_false];exact hw.nT k Z q x ah
  ·obtain⟨aR,a5,bp,cA,et⟩:=hw.gd D x aa;have ef:=hw.vy aa;have HB:g≠D:=by
    rcases a8 with⟨fY,_⟩|⟨fY,_⟩
    ·rw[fY];exact bp b es ab
    ·omega
   refine⟨aR,(s7 D ef (λe=>bp b es ab e.symm)).trans a5,λq y aW=>?_,cA,et⟩;rcases w3 q y aW with⟨rfl,rfl⟩|⟨au,ax,ah⟩
   ·simpa using HB
   ·simp only[au,if_false];exact bp q y ah
 ·have:=bX.bn (P:=P) (m:={m with cm:=λq=>if q=h.n then g else m.cm q,hg:=λq=>if q=h.n then e else m.hg q,nR:=λq=>if q=h.n then cap*P.cellsOf e else m.nR q}) (h:=(h.set b ad).push dD) h.n 0 n e cap (by simp[ag.push,ag.set]) (by simp) (by simp) TR kd;simpa using this
 ·have k9:∀q,q<m.base->ba.heap[q]? =w.heap[q]? :=λq aW=>s7 q (by have:=hw.size;omega) (by have:=(hw.lt b es ab).2;omega);rcases a8 with⟨_,iY⟩|⟨_,eK⟩
  ·exact⟨iY.os,iY.tape,iY.output,iY.size,k9⟩
  ·exact⟨eK.os,eK.tape,eK.output,eK.size,k9⟩
theorem agx(g4:pM P)(hw:cc P m h w)(a3:dY P m h t a.tmps)(ty:a6)(x y:gy)(aF:I.op= .call {callee:=.builtin .append,args:= #[x,y],argTypes:=[ty,ty].toArray}){e:a6}(he:kb P ty=o e)(aN:(kG P e).isSome=O)(a':Bool){v:E}(U:eU a' e (bD t x) (bD t y) h=o (v,F)):dZ P m h a w I v F:=by
 have ke:=r3 he;have nn:=wW g4 he;obtain⟨z,aN⟩:=Option.isSome_iff_exists.1 aN;obtain⟨i,zT,af,vE,h1,aC,ao,lN⟩:=yi (m:=m) (h:=h) (w:=w) g4 aN;have iK:i.size=P.cellsOf e:=by simp[Program.cellsOf,af]
 have um:=g4.small e i (Tx aN) af;have jh:=hv a3 x;have rb:=hv a3 y;obtain⟨HC,uw⟩:∃u,a.eval x=u:=⟨_,rfl⟩;obtain⟨agy,s9⟩:∃u,a.eval y=u:=⟨_,rfl⟩;rw[uw]at jh;rw[s9]at rb;by_cases HD:bD t y= .aA
 ·rw[HD]at rb U;cases rb;have kf:∀{A n c},HC= .slice A n c->n<=c->bX P m h v (.slice A n c)->F=h->dZ P m h a w I v F:=by intro A n c J R ah aD;subst J;subst aD;exact dZ.pure hw (yk ty [ty] x y aF uw s9 (ago ty e [ty] ke (by rw[af];simp) rfl _ A n c R)) ah
  simp only[eU,sY]at U;cases mW:bD t x<;>rw[mW]at U jh<;>simp only at U<;>try (cases U;done)
  ·injection U with U;injection U with J R;subst J;cases jh;exact kf rfl (b4 _) .aA R.symm
  ·split at U
   ·injection U with U;injection U with J R;subst J;have rh:=jh;cases jh with
    |nS dG eP cap=>exact kf rfl (mz _) rh R.symm
    |b0 id dG es g fk cap ae hle eR s4 jQ zP=>exact kf rfl jQ rh R.symm
   ·cases U
  ·split at U
   ·injection U with U;injection U with J R;subst J;have rh:=jh;cases jh with
    |bn b fk b' dG cap ab qx jQ oA kd=>exact kf rfl oA rh R.symm
   ·cases U
 ·have hN:((iT h e (bD t y)).bind λnew=>if new.length=0 then sY e (bD t x) h else jX a' e (bD t x) new h)=o (v,F):=by rw[<-U];unfold eU;cases MJ:bD t y<;>first|rfl|exact absurd MJ HD
  clear U;obtain⟨new,TS,U⟩:=dK.1 hN;by_cases oz:new.length=0
  ·rw[if_pos oz]at U;obtain⟨pJ,n,c,news,rfl,rfl,gP,vx⟩:=TL hw rb HD TS;rw[oz]at s9 rb;have kf:∀{A n ej},HC= .slice A n ej->n<=ej->bX P m h v (.slice A n ej)->F=h->dZ P m h a w I v F:=by intro A n ej J R ah aD;subst J;subst aD;exact dZ.pure hw (yk ty [ty] x y aF uw s9 (agp ty e [ty] ke (by rw[af];simp) rfl _ A n ej R pJ c)) ah
   simp only[sY]at U;cases mW:bD t x<;>rw[mW]at U jh<;>simp only at U<;>try (cases U;done)
   ·injection U with U;injection U with J R;subst J;cases jh;exact kf rfl (b4 _) .aA R.symm
   ·split at U
    ·injection U with U;injection U with J R;subst J;have rh:=jh;cases jh with
     |nS dG eP cap=>exact kf rfl (mz _) rh R.symm
     |b0 id dG es g fk cap ae hle eR s4 jQ zP=>exact kf rfl jQ rh R.symm
    ·cases U
   ·split at U
    ·injection U with U;injection U with J R;subst J;have rh:=jh;cases jh with
     |bn b fk b' dG cap ab qx jQ oA kd=>exact kf rfl oA rh R.symm
    ·cases U
  rw[if_neg oz]at U;unfold jX at U;split at U
  ·rename_i an;obtain⟨aP,bu,cd⟩:=an;obtain⟨pJ,n,c,news,rfl,rfl,gP,vx⟩:=TL hw rb HD TS;have DM:=gP.one nn cd;have MK:∀k,k<=1000000->(k+new.length)*i.bytes<=140737488355328:=by intro k Z;have:(k+new.length)*i.bytes<=2000000*100000:=Nat.mul_le_mul (by omega) um;omega
   have ML:∀k,k<=1000000->k+new.length<=maxLen:=by intro k Z;unfold maxLen;omega
   have agz:bD t x= .aA->dZ P m h a w I v F:=by
    intro mW;rw[mW]at U jh;simp only at U;cases jh;obtain⟨g,cap,ba,bH,bR,hz⟩:=MD (P:=P) (w:=w) m.base ty I.type e i zT (P.cellsOf e) i.bytes ke af vE iK rfl (by rw[aC]) nn (.slice ad 0 0) 0 [] (World.ownsRow_nil _ _ _ _) pJ new.length c (by omega) news gP.1 vx DM (ML 0 (by omega)) (MK 0 (by omega)) hw.size;simp only[hH,lQ]at bH bR;rcases hz with⟨J,_⟩|⟨a8,eK⟩
    ·simp at J
    ·have h0:=yk (ba:=ba) ty [ty] x y aF uw s9 bH;obtain⟨bM,bL⟩:=bR;rcases bL with⟨J,_⟩|⟨ch,s8,cur,J,R,ah,aD,bo,b9,c4⟩
     ·simp at J
     ·simp at J;obtain⟨rfl,rfl⟩:=J;have DN:cur.toList.take (new.length*P.cellsOf e)=news:=c4;have yj:∀i (af:i<new.length) D (aa:D<new[i].length),∃v,cur[i*P.cellsOf e+D]? =o v/\bX P m h new[i][D] v:=by intro i af D aa;obtain⟨v,dL,cn⟩:=gP.2.2 i af D aa;rw[<-DN]at dL;have bf:=(fQ.1 dL).1;simp at bf;rw[uv (by omega)]at dL;exact⟨v,by rw[<-rc];exact dL,cn⟩
      subst a8;cases a'
      ·simp only[l9,if_false,hZ,kh]at U;obtain⟨rfl,rfl⟩:=U;obtain⟨a9,cE,c6,eb⟩:=hw.fresh ba e new cur cap eK ah b9 aD bo gP.2.1 yj;exact⟨a9,ba,_,.inl h0,cE,c6,eb,(nm.below eK).mono hw.size⟩
      ·simp only[if_true,hZ,kh]at U;obtain⟨rfl,rfl⟩:=U;obtain⟨a9,cE,c6,eb,dx,gW⟩:=hw.push ba e new cur eK ah (by rw[b9];exact Nat.mul_le_mul_right _ aD) gP.2.1 yj;have iD:=bX.bn (P:=P) (m:=a9) (h:=h.push new) h.n 0 new.length e cap (by simp[ag.push]) dx (by rw[gW,b9,hH]) aD bo;rw[eb,Nat.zero_mul]at iD;exact⟨a9,ba,_,.inl h0,cE,c6,iD,(nm.below eK).mono hw.size⟩
   have agA:∀k z es,bD t x= .b0 (o k) z es->dZ P m h a w I v F:=by
    intro k z es mW;rw[mW]at U jh;simp only at U;split at U
    ·rename_i ky;obtain⟨rfl,MM,BR⟩:=ky;injection U with U;injection U with da ch;subst da;subst ch;cases jh with
     |b0 id dG es g fk cap ae hle eR s4 jQ zP=>
       obtain⟨Z,yl,_,agB⟩:=zP k rfl;obtain⟨rfl,rfl,rfl⟩:=agB MM.symm;obtain⟨xs,vz⟩:=hw.qu k Z;rw[yl,MM]at vz;have agC:nX P m h (P.cellsOf z) es xs:=agq hw vz hle (λi af D aa=>⟨ae i D,by
        have:=hw.eo _ _ _ (eR i af D (by rw[<-hle _ (iX af)];exact aa));rwa [hH]at this,s4 i af D aa⟩)
       obtain⟨g,s8,ba,bH,bR,hz⟩:=MD (P:=P) (w:=w) m.base ty I.type z i zT (P.cellsOf z) i.bytes ke af vE iK rfl (by rw[aC]) nn _ es.length xs vz pJ new.length c (by omega) news gP.1 vx DM (ML _ BR) (MK _ BR) hw.size;have h0:=yk (ba:=ba) ty [ty] x y aF uw s9 bH;obtain⟨a9,cE,c6,eb,dx⟩:=cc.grown hw Z (n:=es.length) (kg:=new.length) (xs:=xs) (news:=news) (g:=g) (cap:=s8) (ba:=ba) MM.symm aP (by rw[yl];exact vz) (by rw[yl];exact nn) (by rw[yl];exact bR) (by
        rcases hz with⟨bM,bL,_⟩|q
        ·left;simp at bM;exact⟨bM.symm,bL⟩
        ·exact .inr q) (es++new) (by rw[yl];exact agC.append gP) (by simp)
       rw[yl]at eb;exact⟨a9,ba,_,.inl h0,cE,c6,eb,dx⟩
    ·cases U
   have agD:∀b fk b' z,bD t x= .bn b fk b' z->dZ P m h a w I v F:=by
    intro b fk b' z mW;rw[mW]at U jh;simp only at U;split at U
    ·rename_i ky;obtain⟨rfl,rfl,BR⟩:=ky;obtain⟨es,ab,U⟩:=dK.1 U;split at U
     ·rename_i ri;injection U with U;injection U with da ch;subst da;subst ch;cases jh with
      |bn b fk b' dG cap k9 qx jQ oA kd=>
        obtain⟨cs,cK,cX,jS,w4,nr⟩:=hw.live b es ab;rw[qx]at cK jS w4 nr;have MN:cs.size=cap*P.cellsOf z:=by rw[cX,<-jQ,hH]
        have zU:b'*P.cellsOf z<=es.length*P.cellsOf z:=Nat.mul_le_mul_right _ ri;have iW:w.ownsRow m.base z (P.cellsOf z) (.slice (o ⟨m.cm b,0,ad⟩) b' cap) b' (cs.toList.take (b'*P.cellsOf z)):=⟨by simp;omega,.inr ⟨m.cm b,cap,cs,rfl,(hw.lt b es ab).2,cK,oA,kd,MN,rfl⟩⟩;have MO:nX P m h (P.cellsOf z) (es.take b') (cs.toList.take (b'*P.cellsOf z)):=by
         have J:nX P m h (P.cellsOf z) es (cs.toList.take (es.length*P.cellsOf z)):=by
          refine⟨by simp;omega,jS,λi af D aa=>?_⟩;obtain⟨v,dL,cn⟩:=nr i af D aa;have:=o5 (s:=P.cellsOf z) af;have w0:D<P.cellsOf z:=by rw[<-jS _ (iX af)];exact aa
          exact⟨v,by rw[uv (by omega),rc];exact dL,cn⟩
         have R:=J.take b' ri;rwa [List.take_take,Nat.min_eq_left zU]at R
        obtain⟨g,s8,ba,bH,bR,hz⟩:=MD (P:=P) (w:=w) m.base ty I.type z i zT (P.cellsOf z) i.bytes ke af vE iK rfl (by rw[aC]) nn _ b' _ iW pJ new.length c (by omega) news gP.1 vx DM (ML _ BR) (MK _ BR) hw.size;have MP:a.eval x= .slice (o ⟨m.cm b,0,ad⟩) b' cap:=by rw[uw];simp
        have h0:=yk (ba:=ba) ty [ty] x y aF MP s9 bH;obtain⟨a9,cE,c6,eb,dx⟩:=cc.TQ hw ab z qx (ba:=ba) (g:=g) (cap:=s8) bR (by
         rcases hz with⟨bM,bL,_⟩|q
         ·left;simp at bM;exact⟨bM.symm,bL⟩
         ·exact .inr q) (es.take b'++new) (MO.append gP) (by simp;omega)
        exact⟨a9,ba,_,.inl h0,cE,c6,eb,dx⟩
     ·cases U
    ·cases U
   cases mW:bD t x with
   |aA=>exact agz mW
   |b0 id z es=>
     cases id with
     |some k=>exact agA k z es mW
     |none=>rw[mW]at U;cases U
   |bn b fk b' z=>exact agD b fk b' z mW
   |_=>rw[mW]at U;cases U
  ·cases U
theorem TT(base:Nat)(t u ty e:a6)(i:TypeInfo)(a3:P.underlying t=o (.slice e))(bQ:P.underlying u=o .string)(af:P.info? e=o i)(aN:i.zero=o (.int .u8 0))(s1:i.size=1)(um:i.bytes=1)(v:b1)(n:Nat)(xs:List b1)(iW:w.ownsRow base e 1 v n xs)(s:ByteArray)(w1:s.size≠0)(wU:n+s.size<=maxLen)(zL:n+s.size<=140737488355328)(zM:base<=w.heap.size):∃g cap ba,(wV #[t,u] ty #[v,.string s]).run P w= .ok (.slice (o ⟨g,0,ad⟩) (n+s.size) cap) ba/\ba.ownsRow base e 1 (.slice (o ⟨g,0,ad⟩) (n+s.size) cap) (n+s.size) (xs++Lib.strCells s)/\((v.ownBlock=o g/\h9 (λk=>k=g) w ba/\∃k,v= .slice (o ⟨g,0,ad⟩) n k)\/(g=w.heap.size/\nm w ba)):=by
 have agl:n+s.size<=9223372036854775807:=by simp only[maxLen]at wU;omega
 have rg:xs.length=n:=by simpa using iW.1
 have hlen:(xs++Lib.strCells s).length=(n+s.size)*1:=by rw[ff,rg,Lib.strCells_length,Nat.mul_one]
 have grown:∀(fe:Nat),fe<n+s.size->(w.drew.alloc (.cells (xs.toArray++(Lib.strCells s).toArray++Builtin.zeroCells (Value.int .u8 0).cells (grownCap w (n+s.size) fe e - (n+s.size))) e)).ownsRow base e 1 (.slice (o ⟨w.heap.size,0,ad⟩) (n+s.size) (grownCap w (n+s.size) fe e)) (n+s.size) (xs++Lib.strCells s)/\nm w (w.drew.alloc (.cells (xs.toArray++(Lib.strCells s).toArray++Builtin.zeroCells (Value.int .u8 0).cells (grownCap w (n+s.size) fe e - (n+s.size))) e)):=by
  intro fe aF;have ul:=grownCap_ge w (n+s.size) fe e;have zS:grownCap w (n+s.size) fe e<=maxLen:=grownCap_le_maxLen w (n+s.size) fe e wU;refine⟨⟨hlen,.inr ⟨w.heap.size,_,_,rfl,zM,heap_alloc_new w.drew _,ul,zS,?_,?_⟩⟩,⟨rfl,rfl,rfl,by simp,λk Z _=>heap_alloc_old w.drew _ Z⟩⟩
  ·have MQ:(Value.int IntKind.u8 0).cells.size=1:=rfl;simp only[Array.size_append,List.size_toArray,size_zeroCells,MQ,rg,Lib.strCells_length];omega
  ·simp only[Array.toList_append,k'];rw[<-k',<-hlen];exact List.take_left
 rcases iW.2 with⟨rfl,rfl⟩|⟨g,cap,cur,rfl,ME,a8,wT,zS,o1,BI⟩
 ·have aw:xs=[]:=List.eq_nil_of_length_eq_zero rg;subst aw;have ao:=run_append_nil_string (P:=P) w t u ty e i (.int .u8 0) a3 bQ af aN s (by omega) (by omega) (by rw[um];omega);have qB:=grown 0 (by omega);simp only[hH,lQ,Array.empty_append]at qB ⊢;have au:(s.data.map λb=>Value.int .u8 b.toNat)=(Lib.strCells s).toArray:=by apply Array.ext';simp[Lib.strCells]
  rw[au]at ao;exact⟨_,_,_,ao,qB.1,.inr ⟨rfl,qB.2⟩⟩
 ·by_cases BP:n+s.size<=cap
  ·have aw3:cur.size=cap:=by simpa using o1
   have ao:=Lib.run_append_room_string (P:=P) w t u ty e i a3 bQ af s1 g n cap cur a8 s BP (by omega);refine⟨_,_,_,ao,⟨hlen,.inr ⟨g,cap,_,rfl,ME,setRow_heap w g cur _ e _ a8,BP,zS,?_,?_⟩⟩,.inl ⟨rfl,⟨rfl,rfl,rfl,by simp,λk _ Z=>setRow_other w g k _ Z⟩,⟨_,rfl⟩⟩⟩
   ·simp only[List.size_toArray,ff,pN,List.length_drop,Array.length_toList,Lib.strCells_length];omega
   ·have Mv:cur.toList.take n=xs:=by simpa using BI
    rw[Mv,<-hlen];exact List.take_left
  ·have holds:∀D u,xs[D]? =o u->w.cell? ((⟨g,0,ad⟩:Addr).add D)=o u:=iW.cells (g:=g) rfl;have ao:=Lib.run_append_grow_string (P:=P) w t u ty e i (.int .u8 0) a3 bQ af aN ⟨g,0,ad⟩ n cap xs (by rw[s1];simpa using rg) holds s (by omega) (by omega) (by rw[um];exact growslice_fits (by omega) (by omega));have qB:=grown cap (by omega);exact⟨_,_,_,ao,qB.1,.inr ⟨rfl,qB.2⟩⟩
theorem agE{e:a6}(h:Dx P e=O):∃i,P.info? e=o i/\i.zero=o (.int .u8 0)/\i.size=1/\i.bytes=1/\P.cellsOf e=1:=by
 unfold Dx at h;split at h
 ·rename_i i af;simp only[hx,beq_iff_eq]at h;obtain⟨⟨J,R⟩,ah⟩:=h;split at J
  ·rename_i n aN;have:n=0:=by simpa using J
   subst this;exact⟨i,af,aN,R,ah,by simp[Program.cellsOf,af,R]⟩
  ·cases J
 ·cases h
theorem TU(l:List UInt8):nX P m h 1 (ui l) (Lib.strCells ⟨l.toArray⟩):=by
 refine⟨by simp[Lib.strCells],λr ao=>?_,λi af D aa=>?_⟩
 ·obtain⟨c,_,rfl⟩:=o8.1 ao;rfl
 ·have eR:i<l.length:=by simpa using af
  have e:(ui l)[i]=[.int .u8 l[i].toNat]:=by simp[ui]
  have r7:D=0:=by rw[e]at aa;simpa using aa
  subst r7;refine⟨.int .u8 l[i].toNat,by simp[Lib.strCells,eR],?_⟩;simp only[e,List.getElem_cons_zero];exact .int _ _
theorem agF(h:oY P ty=O):P.underlying ty=o .string:=by
 unfold oY at h;split at h
 ·assumption
 ·cases h
theorem agG(ty u e:a6)(r5:P.underlying ty=o (.slice e))(bQ:P.underlying u=o .string){i:TypeInfo}(af:P.info? e=o i)(aC:i.size=1)(DL:a6)(A:Option Addr)(n c:Nat)(wT:n<=c):(wV #[ty,u] DL #[.slice A n c,.string ⟨#[]⟩]).run P w= .ok (.slice A n c) w:=by have bl:=Lib.run_firstCells_string (P:=P) w 1 ⟨#[]⟩;have dV:(Lib.strCells ⟨#[]⟩)=[]:=rfl;have au:(⟨#[]⟩:ByteArray).size=0:=rfl;rw[dV,au]at bl;cases A<;>simp[wV,jz r5,jz bQ,sizeOf,typeInfo,af,aC,Builtin.lenOf,wT,bl,au,storeCells]
theorem agH(hw:cc P m h w)(a3:dY P m h t a.tmps)(ty ym:a6)(x y:gy)(aF:I.op= .call {callee:=.builtin .append,args:= #[x,y],argTypes:=[ty,ym].toArray}){e:a6}(he:kb P ty=o e)(bQ:oY P ym=O)(hh:Dx P e=O)(a':Bool){v:E}(U:Dy a' e (bD t x) (bD t y) h=o (v,F)):dZ P m h a w I v F:=by
 have ke:=r3 he;have BL:=agF bQ;obtain⟨i,af,aN,mw,mT,mS⟩:=agE hh;have jh:=hv a3 x;have rb:=hv a3 y;obtain⟨HC,uw⟩:∃u,a.eval x=u:=⟨_,rfl⟩;obtain⟨agy,s9⟩:∃u,a.eval y=u:=⟨_,rfl⟩;rw[uw]at jh;rw[s9]at rb;unfold Dy at U;split at U
 ·rename_i l MJ;rw[MJ]at rb;cases rb;split at U
  ·rename_i oz;obtain rfl:=pR.1 oz;have kf:∀{A n ej},HC= .slice A n ej->n<=ej->bX P m h v (.slice A n ej)->F=h->dZ P m h a w I v F:=by intro A n ej J R ah aD;subst J;subst aD;exact dZ.pure hw (yk ty [ym] x y aF uw s9 (agG ty ym e ke BL af mw _ A n ej R)) ah
   simp only[sY]at U;cases mW:bD t x<;>rw[mW]at U jh<;>simp only at U<;>try (cases U;done)
   ·injection U with U;injection U with J R;subst J;cases jh;exact kf rfl (b4 _) .aA R.symm
   ·split at U
    ·injection U with U;injection U with J R;subst J;have rh:=jh;cases jh with
     |nS dG eP cap=>exact kf rfl (mz _) rh R.symm
     |b0 id dG es g fk cap ae hle eR s4 jQ zP=>exact kf rfl jQ rh R.symm
    ·cases U
   ·split at U
    ·injection U with U;injection U with J R;subst J;have rh:=jh;cases jh with
     |bn b fk b' dG cap ab qx jQ oA kd=>exact kf rfl oA rh R.symm
    ·cases U
  ·rename_i oz;split at U
   ·rename_i aw4;have eJ:(⟨l.toArray⟩:ByteArray).size=l.length:=Hq l;split at U
    ·rename_i mW;rw[mW]at jh;cases jh;split at U
     ·rename_i HE;injection U with U;injection U with da ch;subst da;subst ch;obtain⟨g,cap,ba,bH,bR,hz⟩:=TT (P:=P) (w:=w) m.base ty ym I.type e i ke BL af aN mw mT (.slice ad 0 0) 0 [] (World.ownsRow_nil _ _ _ _) ⟨l.toArray⟩ (by rw[eJ];exact oz) (by rw[eJ];unfold maxLen;omega) (by rw[eJ];omega) hw.size;rw[eJ]at bH bR;simp only[hH,lQ]at bH bR;rcases hz with⟨bM,_⟩|⟨a8,eK⟩
      ·simp at bM
      ·have h0:=yk (ba:=ba) ty [ym] x y aF uw s9 bH;obtain⟨bM,bL⟩:=bR;rcases bL with⟨J,_⟩|⟨ch,s8,cur,J,R,ah,aD,bo,b9,c4⟩
       ·simp at J
       ·simp at J;obtain⟨rfl,rfl⟩:=J;have gP:=TU (P:=P) (m:=m) (h:=h) l;have yj:∀i (af:i<(ui l).length) D (aa:D<(ui l)[i].length),∃v,cur[i*P.cellsOf e+D]? =o v/\bX P m h (ui l)[i][D] v:=by intro i af D aa;obtain⟨v,dL,cn⟩:=gP.2.2 i af D aa;rw[<-c4]at dL;have bf:=(fQ.1 dL).1;simp at bf;rw[uv (by omega)]at dL;exact⟨v,by rw[mS,<-rc];exact dL,cn⟩
        subst a8;obtain⟨a9,cE,c6,eb,dx,gW⟩:=hw.push ba e (ui l) cur eK ah (by rw[b9,mS];simp;omega) (by rw[mS];exact gP.2.1) yj;have iD:=bX.bn (P:=P) (m:=a9) (h:=h.push (ui l)) h.n 0 l.length e cap (by simp[ag.push]) dx (by rw[gW,b9,hH,mS]) aD bo;rw[eb,Nat.zero_mul]at iD;exact⟨a9,ba,_,.inl h0,cE,c6,iD,(nm.below eK).mono hw.size⟩
     ·cases U
    ·rename_i b fk b' z mW;rw[mW]at jh;split at U
     ·rename_i ky;obtain⟨rfl,rfl,BR⟩:=ky;obtain⟨es,ab,U⟩:=dK.1 U;split at U
      ·rename_i ri;injection U with U;injection U with da ch;subst da;subst ch;cases jh with
       |bn b fk b' dG cap k9 qx jQ oA kd=>
         obtain⟨cs,cK,cX,jS,w4,nr⟩:=hw.live b es ab;rw[qx,mS]at jS w4 nr;rw[qx]at cK;have MN:cs.size=cap*1:=by rw[cX,<-jQ,hH,mS]
         have iW:w.ownsRow m.base z 1 (.slice (o ⟨m.cm b,0,ad⟩) b' cap) b' (cs.toList.take (b'*1)):=⟨by simp;omega,.inr ⟨m.cm b,cap,cs,rfl,(hw.lt b es ab).2,cK,oA,kd,MN,rfl⟩⟩;have MO:nX P m h 1 (es.take b') (cs.toList.take (b'*1)):=by
          have J:nX P m h 1 es (cs.toList.take (es.length*1)):=by
           refine⟨by simp;omega,jS,λi af D aa=>?_⟩;obtain⟨v,dL,cn⟩:=nr i af D aa;have:=o5 (s:=1) af;have w0:D<1:=by rw[<-jS _ (iX af)];exact aa
           exact⟨v,by rw[uv (by omega),rc];exact dL,cn⟩
          have R:=J.take b' ri;rwa [List.take_take,Nat.min_eq_left (by omega)]at R
         obtain⟨g,s8,ba,bH,bR,hz⟩:=TT (P:=P) (w:=w) m.base ty ym I.type z i ke BL af aN mw mT _ b' _ iW ⟨l.toArray⟩ (by rw[eJ];exact oz) (by rw[eJ];unfold maxLen;omega) (by rw[eJ];omega) hw.size;rw[eJ]at bH bR;have MP:a.eval x= .slice (o ⟨m.cm b,0,ad⟩) b' cap:=by rw[uw];simp
         have h0:=yk (ba:=ba) ty [ym] x y aF MP s9 bH;obtain⟨a9,cE,c6,eb,dx⟩:=cc.TQ hw ab z qx (ba:=ba) (g:=g) (cap:=s8) (by rw[mS];exact bR) (by
          rcases hz with⟨bM,bL,_⟩|q
          ·left;simp at bM;exact⟨bM.symm,bL⟩
          ·exact .inr q) (es.take b'++ui l) (by rw[mS];exact MO.append (TU l)) (by simp;omega)
         exact⟨a9,ba,_,.inl h0,cE,c6,eb,dx⟩
      ·cases U
     ·cases U
    ·cases U
   ·cases U
 ·cases U
end
open Go Go.RowKit
section
variable{P:cT}{m a9:eh}{h F:ag}{w ba:dy}{t:List E}{a:Act}{I:bh}
theorem agI(g4:pM P)(hw:cc P m h w)(a3:dY P m h t a.tmps){v:E}(he:jY P t I=o v):dZ P m h a w I v h:=by
 unfold jY at he;split at he
 ·rename_i x aF;injection he with J;subst J;exact Tq hw a3 x (.inl aF)
 ·rename_i x aF;injection he with J;subst J;exact Tq hw a3 x (.inr aF)
 ·rename_i c x y aF;split at he
  ·rename_i b ab;injection he with J;subst J;exact afO hw a3 c x y aF ab
  ·cases he
 ·rename_i ty parts aF;obtain⟨z,aN,he⟩:=dK.1 he;split at he
  ·rename_i pl jZ;split at he
   ·rename_i ns;obtain⟨cs,o1,J⟩:=dN.1 he;subst J;exact TH g4 hw a3 ty parts aF aN (.inl ⟨pl,jZ,by simpa using ns,o1⟩)
   ·cases he
  ·obtain⟨q,aW,he⟩:=dK.1 he;split at he
   ·cases he
   ·rename_i DO;obtain⟨cs,o1,J⟩:=dN.1 he;subst J;exact TH g4 hw a3 ty parts aF aN (.inr ⟨q.1,q.2,aW,DO,o1⟩)
 ·rename_i x aF;split at he<;>first|(cases he;done)|skip
  all_goals
   rename_i aw;injection he with J;subst J;exact afP hw a3 x aF aw rfl
 ·rename_i op ty x y s5 aF;have aw:=hv a3 x;have bE:=hv a3 y;split at he
  ·rename_i ex wY;rw[ex]at aw;rw[wY]at bE;obtain⟨jr,my⟩:∃u,a.eval x=u:=⟨_,rfl⟩;obtain⟨jR,la⟩:∃u,a.eval y=u:=⟨_,rfl⟩;rw[my]at aw;rw[la]at bE;cases aw;cases bE;have key:∀c,y= .const c->hW P ty= .iface->∀b,(op= .eql/\b=O)\/(op= .neq/\b=T)->(fB a.eval I).run P w= .ok (.value (.bool b)) w:=by
    intro c agJ Z b h0;subst agJ;have a7:=Z;unfold hW at a7;split at a7<;>simp at a7;rename_i ms o6;have heq:(Op.equal ty .nilIface .nilIface).run P w= .ok O w:=by
     have aj:∀d,(Op.equalIn (d+1) ty .nilIface .nilIface).run P w= .ok O w:=λd=>by simp[Op.equalIn,jz o6]
     exact aj 9999
    have a8:(eqGuard op ty x (.const c) .nilIface .nilIface).run P w= .ok () w:=by rcases h0 with⟨rfl,_⟩|⟨rfl,_⟩<;>cases x<;>rfl
    rcases h0 with⟨rfl,rfl⟩|⟨rfl,rfl⟩
    ·have au:binOp .eql ty .nilIface .nilIface=(do pure (.bool (<-Op.equal ty .nilIface .nilIface)):Sem b1):=rfl;simp only[fB,aF,my,la,iA,a8,ij,au,heq,lO]
    ·have au:binOp .neq ty .nilIface .nilIface=(do pure (.bool (!(<-Op.equal ty .nilIface .nilIface))):Sem b1):=rfl;simp only[fB,aF,my,la,iA,a8,ij,au,heq,lO];rfl
   split at he
   ·rename_i c Z;injection he with J;subst J;exact dZ.pure hw (key _ rfl Z O (.inl ⟨rfl,rfl⟩)) (.bool _)
   ·rename_i c Z;injection he with J;subst J;exact dZ.pure hw (key _ rfl Z T (.inr ⟨rfl,rfl⟩)) (.bool _)
   ·cases he
  ·rename_i xs er ex wY;obtain⟨aT,TV,he⟩:=dK.1 he;split at he
   ·obtain⟨b,ab,J⟩:=dN.1 he;subst J;exact TC hw a3 _ ty s5 x y aF ex wY TV ab (.inl ⟨rfl,rfl⟩)
   ·obtain⟨b,ab,J⟩:=dN.1 he;subst J;exact TC hw a3 _ ty s5 x y aF ex wY TV ab (.inr ⟨rfl,rfl⟩)
   ·cases he
  ·rename_i aw5 aw6;have ao:=he;clear he;obtain⟨jr,my⟩:∃u,a.eval x=u:=⟨_,rfl⟩;obtain⟨jR,la⟩:∃u,a.eval y=u:=⟨_,rfl⟩;rw[my]at aw;rw[la]at bE;generalize bD t x=ex at*;generalize bD t y=wY at*;unfold en at ao;split at ao
   ·rename_i k eP dQ gz;cases aw;cases bE;obtain⟨u,bH,bR⟩:=af3 (P:=P) (m:=m) (h:=h) (w:=w) op ty k dQ eP gz (hW P ty) ao;exact dZ.pure hw (Hr op ty s5 x y aF my la rfl bH) bR
   ·rename_i eP gz;cases aw;cases bE;obtain⟨u,bH,bR⟩:=af4 (P:=P) (m:=m) (h:=h) (w:=w) op ty eP gz (hW P ty) ao;exact dZ.pure hw (Hr op ty s5 x y aF my la rfl bH) bR
   ·split at ao
    ·obtain⟨b,ab,ao⟩:=dN.1 ao;subst ao;obtain⟨au,ax,bc⟩:=ST (w:=w) ty ab aw bE;exact dZ.pure hw (Hr _ ty s5 x y aF my la au ax) (.bool _)
    ·obtain⟨b,ab,ao⟩:=dN.1 ao;subst ao;obtain⟨au,ax,bc⟩:=ST (w:=w) ty ab aw bE;exact dZ.pure hw (Hr _ ty s5 x y aF my la au bc) (.bool _)
    ·cases ao
 ·rename_i op ty x aF;have bQ:=he;exact afQ hw a3 op ty x aF bQ
 ·rename_i src dst x aF;split at he
  ·cases he
  ·rename_i aE;have bQ:=he;exact afR hw a3 src dst x aF (by cases aC:P.underlying src<;>simp_all) bQ
 ·rename_i ty x aF;split at he
  ·cases he
  ·rename_i aH;have yn:wM P ty=O:=by simpa using aH
   split at he
   ·injection he with J;subst J;exact Ts hw a3 ty x aF yn
   ·split at he
    ·rename_i cs o1;injection he with J;subst J;rw[<-o1];exact Ts hw a3 ty x aF yn
    ·cases he
 ·rename_i f first captured aF
  split at he
  ·rename_i g;injection he with J;subst J;exact afS hw a3 g first captured aF
  ·cases he
 ·rename_i ty x ih af ni aF;split at he
  ·cases he
  ·rename_i ky;have bQ:=he;simp only[qC,Bool.not_eq_true',not_or,Bool.not_eq_true,Bool.not_eq_false]at ky;obtain⟨aP,bu⟩:=ky;cases ni with
   |some ni=>simp at aP
   |none=>exact agd g4 hw a3 ty x ih af aF bu bQ
 ·rename_i s x f aF;obtain⟨q,aW,he⟩:=dK.1 he;split at he
  ·cases he
  ·rename_i DO;have bQ:=he;exact afV hw a3 s x f aF aW DO bQ
 ·rename_i s x f aF;obtain⟨q,aW,he⟩:=dK.1 he;split at he
  ·rename_i cs o1;split at he
   ·cases he
   ·rename_i ky;have bQ:=he;exact afW hw a3 s x f aF aW (λh=>ky (.inl h)) (by intro aE;exact ky (.inr (by simp[aE]))) o1 bQ
  ·cases he
 ·rename_i ty x bV aF;have bQ:=he;exact afX g4 hw a3 ty x bV aF bQ
 ·rename_i ty x bV aF;have bQ:=he;exact afZ hw a3 ty x bV aF bQ
 ·rename_i x DH aS ok aF;split at he
  ·rename_i q bs aw;split at he
   ·rename_i an;obtain⟨aP,bu⟩:=an;subst bu;injection he with J;subst J;exact afU hw a3 x DH q ok aF aw aP
   ·cases he
  ·cases he
 ·rename_i x i aF;split at he
  ·rename_i bA aw;have bQ:=he;exact afT hw a3 x i aF aw bQ
  ·cases he
 ·rename_i args argTypes aF;have MR:∀(l:List gy),args.toList=l->args=l.toArray:=λl am=>by rw[<-am]
  have MS:∀(l:List a6),argTypes.toList=l->argTypes=l.toArray:=λl am=>by rw[<-am]
  split at he
  ·rename_i x ty qy aX r5;obtain rfl:=MR _ aX;obtain rfl:=MS _ r5;split at he
   ·rename_i bl;obtain⟨n,aE,J⟩:=dN.1 he;subst J;exact af1 hw a3 x ty qy aF bl aE
   ·cases he
  ·cases he
 ·rename_i args argTypes aF;split at he
  ·rename_i x y aX;obtain rfl:args=[x,y].toArray:=by rw[<-aX]
   exact Tz hw a3 T x y _ aF rfl rfl he
  ·cases he
 ·rename_i args argTypes aF;split at he
  ·rename_i x y aX;obtain rfl:args=[x,y].toArray:=by rw[<-aX]
   exact Tz hw a3 O x y _ aF rfl rfl he
  ·cases he
 ·cases he
theorem TW(g4:pM P)(hw:cc P m h w)(a3:dY P m h t a.tmps)(a':a6->Bool){v:E}(he:fF P a' t h I=o (v,F)):dZ P m h a w I v F:=by
 unfold fF at he;split at he
 ·rename_i e aF;obtain⟨z,aN,he⟩:=dN.1 he;injection he with J R;subst J;subst R;split
  ·exact afF g4 hw e aF aN
  ·exact afE g4 hw e aF aN
 ·rename_i e x aF;split at he
  ·rename_i an;injection he with he;injection he with J R;subst J;subst R;split
   ·exact afH hw a3 e x aF an.1 an.2
   ·exact afG hw a3 e x aF an.1 an.2
  ·cases he
 ·rename_i ty len parts aF;obtain⟨e,hA,he⟩:=dK.1 he;obtain⟨z,aN,he⟩:=dK.1 he;split at he
  ·rename_i an;obtain⟨es,ke,he⟩:=dN.1 he;have:=agi g4 hw a3 ty len parts aF hA aN ke an;split at he
   ·injection he with J R;subst J;subst R;exact this.1
   ·split at he
    ·injection he with J R;subst J;subst R;exact this.2.2
    ·injection he with J R;subst J;subst R;exact this.2.1
  ·cases he
 ·rename_i ty x aF;split at he
  ·cases he
  ·rename_i aE;obtain⟨u,bQ,he⟩:=dN.1 he;injection he with J R;subst J;subst R;obtain⟨d,a7⟩:=Option.isSome_iff_exists.1 (by cases la:P.underlying ty<;>simp_all:(P.underlying ty).isSome=O);obtain⟨i,af⟩:=Tt a7;exact afI hw a3 ty x aF a7 (by rw[af];simp) bQ
 ·rename_i ty x y aF;split at he
  ·cases he
  ·rename_i aE;obtain⟨R,bS,he⟩:=dN.1 he;injection he with au ax;subst au;subst ax;obtain⟨i,af,_⟩:=ra aE;exact afJ hw a3 ty x y aF (by rw[af];simp) bS
 ·rename_i ty l c aF;split at he
  ·rename_i cE n c6 lp am an;obtain⟨e,hA,he⟩:=dK.1 he;obtain⟨z,aN,he⟩:=dK.1 he;split at he
   ·rename_i ky;obtain⟨aP,bu,cd⟩:=ky;have ki:bD t c= .int c6 n:=by rw[an,<-bu]
    injection he with he;injection he with J R;subst J;subst R;exact agk g4 hw a3 ty l c aF hA aN am ki aP cd
   ·cases he
  ·cases he
 ·rename_i args argTypes aF;have MR:∀(l:List gy),args.toList=l->args=l.toArray:=λl am=>by rw[<-am]
  have MS:∀(l:List a6),argTypes.toList=l->argTypes=l.toArray:=λl am=>by rw[<-am]
  split at he
  ·rename_i x y ty uj aX r5;obtain rfl:=MR _ aX;obtain rfl:=MS _ r5;split at he
   ·rename_i yl;subst yl;obtain⟨e,hA,he⟩:=dK.1 he;split at he
    ·rename_i aN;exact agx g4 hw a3 ty x y aF hA aN (a' ty) he
    ·cases he
   ·split at he
    ·rename_i bS;obtain⟨e,hA,he⟩:=dK.1 he;split at he
     ·rename_i hh;exact agH hw a3 ty uj x y aF hA bS hh (a' ty) he
     ·cases he
    ·cases he
  ·cases he
 ·obtain⟨u,bQ,he⟩:=dN.1 he;injection he with J R;subst J;subst R;exact agI g4 hw a3 bQ
end
end Go.Proofs.YtkdbjfncchmmpaaGreat
