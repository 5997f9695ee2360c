/- A plain model of what a call does, without addresses, capacities and orders: values are trees, slices are lists. The evaluation 'runK' of a function's body in it. -/
import Derived.WalkKit
import Derived.WalkSpells
import Derived.Deep.Draws
import Derived.Laws.Rows
import Derived.Maps.AppendAt
import Derived.Deep.AppendLies
import Derived.Laws.ResultCell
import Derived.Lib.LaidTab
import Derived.Lib.ItoaNum
import Derived.Laws.StructEq
import Derived.Laws.CopyRow
import Derived.Lib.SliceRun
import Derived.Laws.Pointers
import Derived.WideLaws
import Derived.Great.FillDense
import Derived.Lib.AppendStr
import Derived.Great.BuildSlice
import Derived.Laws.MakeOwn
import Derived.Laws.OwnMore
set_option linter.unusedSimpArgs false
set_option linter.unusedVariables false
set_option maxHeartbeats 4000000
set_option maxRecDepth 1000000
open Option renaming some→j,bind_eq_some_iff→c',map_eq_some_iff→dd,none→ab,bind_some→c7,map_some→hj,getD_some→pf
open List renaming replicate→ax,getElem?_eq_getElem→fz,getElem?_eq_some_iff→gg,length_append→eP,getD→cK,length_nil→gK,getElem_mem→h2,all_eq_true→iR,append_assoc→kv,getElem?_append_left→mJ,getElem?_eq_none→lU,map_cons→jU,length_set→kK,range→iQ,nil_append→k5,getElem?_append_right→pY,length_eq_zero_iff→p4,mem_map→n0,getElem?_take_of_lt→rW,map_nil→qQ,getElem?_map→s6
open Go.IntKind renaming i64→o
open Nat renaming le_refl→bV,lt_of_lt_of_le→eL,le_trans→ef,zero_add→hk,zero_le→k4,lt_or_ge→mc,add_assoc→oE,le_of_eq→pg
open Bool renaming false→T,true→Q,and_eq_true→gS,false_eq_true→mI,or_eq_true→oI
open Go renaming TypeId→aT,Oper→a0,Program→cp,Value→bK,FuncId→cJ,run_underlying→iz,World→cQ,Operand→fi,execOp→eG,undef→fg,IntKind→jC,Code→ff
open Array renaming getElem?_toList→pd
open Option.some renaming injEq→g5,inj→nW
open Go.Result renaming andThen_ok→hc
open Go.Sem renaming run_bind→hi,run_pure→ku
open Prod.mk renaming injEq→jH
open Go.Region renaming binds→j8,before→lq
open Go.RowKit.Below renaming refl→k0
open BitVec renaming ofInt→nU
open Go.Addr renaming add_lit→oC
open Ne renaming symm→kw
open Go.Builtin renaming append_→t'
namespace Go.Proofs.Ytkdbjfncchmmpaa
open Go
variable{cN:Bool}{d:TypeDesc}{y:ff}{bX:List a0}{u:bK}{ty:aT}
inductive I where
 |aP
 |bool (b:Bool)
 |int (k:jC) (n:Int)
 |str (s:List UInt8)
 |gd
 |ptr (b i off:Nat)
 |e2 (t:aT) (b:Nat)
 |ip (e:List I) (off:Nat)
 |aF
 |bR (id:Option Nat) (el:aT) (es:List (List I))
 |bd (b E n:Nat) (el:aT)
 |fn (f:cJ) (first captured:List I)
 |mb
 |hb
 |iface (t:aT) (v:I)
 |agg (cs:List I)
 |bW (br:List I)
 deriving Inhabited
abbrev C6(n:Int):I:=.int o n
def I.cells:I->List I
 |.agg cs=>cs
 |v=>[v]
def I.one:I->Bool
 |.aP|.agg _|.bW _=>T
 |_=>Q
structure ad where
 n:Nat
 cell:Nat->Option (List (List I))
 ids:Nat
 hw:Nat->Nat
def ad.set(h:ad)(b:Nat)(es:Option (List (List I))):ad:={h with cell:=λk=>if k=b then es else h.cell k}
def ad.push(h:ad)(es:List (List I)):ad:={h with n:=h.n+1,cell:=λk=>if k=h.n then j es else h.cell k}
def ad.grow(h:ad)(id m:Nat):ad:={h with hw:=λk=>if k=id then m else h.hw k}
def ad.fresh(h:ad)(m:Nat):ad:={h with ids:=h.ids+1,hw:=λk=>if k=h.ids then m else h.hw k}
def vo:bK->I
 |.bool b=>.bool b
 |.int k n=>.int k n
 |.string s=>.str s.data.toList
 |.pointer ab=>.gd
 |.slice ab 0 0=>.aF
 |.nilFunc=>.mb
 |.nilIface=>.hb
 |_=>.aP
def wK:bK->I
 |.agg cs=>.agg (cs.toList.map vo)
 |v=>vo v
def be(t:List I):fi->I
 |.tmp i=>t.getD i .aP
 |.const v=>wK v
 |.func f=>.fn f [] []
 |.global _=>.aP
def ev(t:List I)(d:Option Tmp)(v:I):List I:=
 match d with
 |some i=>t.set i v
 |none=>t
section
variable(P:cp)
def cB(t:aT):Nat:=P.cellsOf t
def jc(t:aT):Bool:=match P.underlying t with
 |some (.struct _)|some (.array ..)=>Q
 |_=>T
def jv(t:aT):Option (List I):=if t<P.types.size then(P.info? t).bind λi=>i.zero.map λv=>(wK v).cells else ab
def qJ(t:aT):Option (List (Nat×aT)):=match P.underlying t with
 |some (.struct cP)=>j (cP.toList.map λf=>(f.offset,f.type))
 |_=>ab
def i0(t:aT):Option aT:=if t<P.types.size then match P.underlying t with
 |some (.slice e)=>j e
 |_=>ab else ab
def o9(t:aT):Option (Nat×aT):=match P.underlying t with
 |some (.array n e)=>j (n,e)
 |_=>ab
inductive jw where
 |bool|int (k:jC)|str|ptr|slice|iface|func|agg|other
def gR(t:aT):jw:=match P.underlying t with
 |some .bool=>.bool
 |some (.int k)=>.int k
 |some .string=>.str
 |some (.pointer _)=>.ptr
 |some (.slice _)=>.slice
 |some (.interface _)=>.iface
 |some (.func ..)=>.func
 |some (.struct _)|some (.array ..)=>.agg
 |_=>.other
end
def nc(P:cp)(t:aT):Bool:=match P.underlying t with
 |some .string=>Q
 |_=>T
def C7(P:cp)(t:aT):Bool:=(i0 P t).isSome
def tS(P:cp)(t:aT):Bool:=match P.underlying t with
 |some (.interface _)=>T
 |some _=>Q
 |none=>T
def tT(P:cp)(t:aT):I->Bool
 |.str _=>nc P t
 |.bR _ el _=>i0 P t==j el
 |.bd _ _ _ el=>i0 P t==j el
 |.aF=>C7 P t
 |_=>T
def gG(agg:Bool)(n:Nat)(e:List I)(off:Nat):Option I:=
 if agg then(if off+n<=e.length then j (.agg ((e.drop off).take n))else ab)else e[off]?
def dt(e:List I)(off:Nat)(cs:List I):List I:=e.take off++cs++e.drop (off+cs.length)
def ad.row(h:ad)(b i:Nat):Option (List I):=(h.cell b).bind (·[i]?)
def c0(agg:Bool)(n:Nat)(h:ad):I->Option I
 |.ptr b i off=>(h.row b i).bind λe=>gG agg n e off
 |.e2 _ b=>(h.row b 0).bind λe=>gG agg n e 0
 |.ip e off=>gG agg n e off
 |_=>ab
def ew(n:Nat)(h:ad)(a x:I):Option ad:=
 match a with
 |.ptr b i off=>(h.cell b).bind λes=>(es[i]?).bind λe=>if x.cells.all I.one/\x.cells.length=n/\off+n<=e.length then j (h.set b (j (es.set i (dt e off x.cells))))else ab
 |.e2 _ b=>(h.cell b).bind λes=>(es[0]?).bind λe=>if x.cells.all I.one/\x.cells.length=n/\0+n<=e.length then j (h.set b (j (es.set 0 (dt e 0 x.cells))))else ab
 |_=>ab
def nS:List (Nat×Nat)->List I->List (Nat×I)->Option (List I)
 |_,cs,[]=>j cs
 |pl,cs,(i,v)::r=>match pl[i]? with
   |some (off,size)=>if v.cells.length=size/\off+size<=cs.length/\v.cells.all I.one then nS pl (dt cs off v.cells) r else ab
   |none=>ab
def nT:Nat->List (List I)->List (Nat×I)->Option (List (List I))
 |_,es,[]=>j es
 |dY,es,(i,v)::r=>if v.cells.length=dY/\i<es.length/\v.cells.all I.one then nT dY (es.set i v.cells) r else ab
def nd(op:BinOp)(k:jC)(a b:Int):Option I:=
 match op with
 |.add=>j (.int k (k.wrap (a+b)))
 |.sub=>j (.int k (k.wrap (a - b)))
 |.mul=>j (.int k (k.wrap (a*b)))
 |.eql=>j (.bool (a==b))
 |.neq=>j (.bool (a != b))
 |.lss=>j (.bool (a<b))
 |.leq=>j (.bool (a<=b))
 |.gtr=>j (.bool (a>b))
 |.geq=>j (.bool (a>=b))
 |.and=>j (.int k (k.wrap (nU k.bits a&&& nU k.bits b).toNat))
 |.or=>j (.int k (k.wrap (nU k.bits a|||nU k.bits b).toNat))
 |.andNot=>j (.int k (k.wrap (nU k.bits a&&& ~~~(nU k.bits b)).toNat))
 |.rem=>if b=0 then ab else j (.int k (a.tmod b))
 |_=>ab
def mG:jw->I->I->Option Bool
 |.bool,.bool a,.bool b=>j (a==b)
 |.ptr,.gd,.gd=>j Q
 |.ptr,.gd,.ptr .. =>j T
 |.ptr,.gd,.ip .. =>j T
 |.ptr,.gd,.e2 .. =>j T
 |.ptr,.e2 ..,.gd=>j T
 |.ptr,.ptr ..,.gd=>j T
 |.ptr,.ip ..,.gd=>j T
 |.slice,.aF,.aF=>j Q
 |.slice,.bR ..,.aF=>j T
 |.slice,.bd ..,.aF=>j T
 |.slice,.aF,.bR .. =>j T
 |.slice,.aF,.bd .. =>j T
 |.func,.mb,.mb=>j Q
 |.func,.fn ..,.mb=>j T
 |.func,.mb,.fn .. =>j T
 |.iface,.iface ..,.hb=>j T
 |.iface,.hb,.iface .. =>j T
 |_,_,_=>ab
def dV(eV:jw)(op:BinOp)(x y:I):Option I:=
 match x,y with
 |.int k a,.int cn b=>
   match op with
   |.shl=>if b<0 then ab else j (.int k (k.wrap (a*2 ^ min b.toNat k.bits)))
   |.shr=>if b<0 then ab else j (.int k (a.fdiv (2 ^ min b.toNat k.bits)))
   |_=>if k=cn then nd op k a b else ab
 |.str a,.str b=>match op with
   |.add=>if a.length+b.length<=1000000000000 then j (.str (a++b))else ab
   |.eql=>j (.bool (a==b))
   |.neq=>j (.bool (a != b))
   |_=>ab
 |x,y=>match op with
   |.eql=>(mG eV x y).map .bool
   |.neq=>(mG eV x y).map λb=>.bool !b
   |_=>ab
def qK:List jw->List I->List I->Option Bool
 |[],[],[]=>j Q
 |.int _::aZ,.int k a::xs,.int cn b::dZ=>if k=cn then(qK aZ xs dZ).map λr=>(a==b)&&r else ab
 |.bool::aZ,.bool a::xs,.bool b::dZ=>(qK aZ xs dZ).map λr=>(a==b)&&r
 |.str::aZ,.str a::xs,.str b::dZ=>(qK aZ xs dZ).map λr=>(a==b)&&r
 |_,_,_=>ab
def sU(P:cp)(t:aT):Option (List jw):=match P.underlying t with
 |some (.struct cP)=>if !P.stoodInHeld t&& !P.eqGuardType P.depth t&&(cP.toList.zipIdx.all λ(f,i)=>f.name != "_"&&f.offset==i&&P.cellsOf f.type==1)then j (cP.toList.map λf=>gR P f.type)else ab
 |_=>ab
def eW(t:List I)(E:a0):Option (cJ×List I):=
 match E.op with
 |.call {callee:=.value f,args,..}=>match be t f with
   |.fn g first captured=>j (g,first++args.toList.map (be t)++captured)
   |_=>ab
 |_=>ab
def h0:I->Option Nat
 |.aF=>j 0
 |.bR _ _ es=>j es.length
 |.bd _ _ n _=>j n
 |.str s=>j s.length
 |_=>ab
def iO(h:ad)(dY:aT):I->Option (List (List I))
 |.aF=>j []
 |.bR _ z es=>if z=dY then j es else ab
 |.bd b E n z=>if z=dY then(h.cell b).bind λes=>if E+n<=es.length then j ((es.drop E).take n)else ab else ab
 |_=>ab
def qL(el:aT)(s:I)(h:ad):Option (I×ad):=match s with
 |.aF=>j (.aF,h)
 |.bR id z es=>if z=el then j (.bR id z es,h)else ab
 |.bd b E n z=>if z=el then j (.bd b E n z,h)else ab
 |_=>ab
def kr(a2:Bool)(el:aT)(s:I)(new:List (List I))(h:ad):Option (I×ad):=
 if 0<new.length/\new.length<=1000000/\new.all (·.all I.one)then
  match s with
  |.aF=>if a2 then j (.bd h.n 0 new.length el,h.push new)else j (.bR (j h.ids) el new,h.fresh new.length)
  |.bR (j k) z es=>if z=el/\h.hw k=es.length/\es.length<=1000000 then j (.bR (j k) el (es++new),h.grow k (es.length+new.length))else ab
  |.bd b E n z=>if z=el/\E=0/\n<=1000000 then
    (h.cell b).bind λes=>if n<=es.length then j (.bd h.n 0 (n+new.length) el,(h.set b ab).push (es.take n++new))else ab
    else ab
  |_=>ab
 else ab
def fx(a2:Bool)(el:aT)(s x:I)(h:ad):Option (I×ad):=
 match x with
 |.aF=>qL el s h
 |x=>(iO h el x).bind λnew=>if new.length=0 then qL el s h else kr a2 el s new h
abbrev rN(l:List UInt8):List (List I):=l.map λc=>[.int .u8 c.toNat]
def z9(P:cp)(e:aT):Bool:=match P.info? e with
 |some i=>(match i.zero with|some (.int .u8 n)=>n==0|_=>T)&&i.size==1&&i.bytes==1
 |none=>T
def z'(a2:Bool)(el:aT)(s x:I)(h:ad):Option (I×ad):=
 match x with
 |.str l=>if l.length=0 then qL el s h else if l.length<=1000000000 then(match s with
   |.aF=>if a2 then j (.bd h.n 0 l.length el,h.push (rN l))else ab
   |.bd b E n z=>if z=el/\E=0/\n<=1000000000 then
     (h.cell b).bind λes=>if n<=es.length then j (.bd h.n 0 (n+l.length) el,(h.set b ab).push (es.take n++rN l))else ab
     else ab
   |_=>ab)else ab
 |_=>ab
def wL:Option I->Option Int
 |none=>j 0
 |some (.int _ l)=>j l
 |_=>ab
def yp(n:Nat):Option I->Option Int
 |none=>j n
 |some (.int _ r)=>j r
 |_=>ab
def tU(x:I)(l r:Int):Option I:=
 match x with
 |.str s=>j (.str ((s.drop l.toNat).take (r.toNat - l.toNat)))
 |.bR _ z es=>j (.bR ab z ((es.drop l.toNat).take (r.toNat - l.toNat)))
 |.aF=>j .aF
 |.bd b E _ z=>if l=0 then j (.bd b E r.toNat z)else ab
 |_=>ab
def tV(x:I)(hg aa:Option I):Option I:=(wL hg).bind λl=>(h0 x).bind λn=>(yp n aa).bind λr=>if 0<=l/\l<=r/\r<=n then tU x l r else ab
def wM(op:UnOp)(x:I):Option I:=
 match op,x with
 |.not,.bool b=>j (.bool !b)
 |.neg,.int k n=>j (.int k (k.wrap (0 - n)))
 |_,_=>ab
def vp(eV:jw)(x:I):Option I:=
 match eV,x with
 |.int k,.int _ n=>j (.int k (k.wrap n))
 |.str,.str s=>j (.str s)
 |_,_=>ab
def vq(lP:Bool):I->I->Option I
 |.int k a,.int _ b=>j (.int k (if lP then(if b>a then b else a)else(if b<a then b else a)))
 |_,_=>ab
def cf(off:Nat):I->Option I
 |.ptr b i E=>j (.ptr b i (E+off))
 |.e2 t b=>j (if off=0 then .e2 t b else .ptr b 0 off)
 |.ip e E=>j (.ip e (E+off))
 |_=>ab
def d8(P:cp)(ty:aT)(x k:I):Option I:=
 match x,k with
 |.bR _ el es,.int _ k=>if i0 P ty=j el/\0<=k then(es[k.toNat]?).map λe=>.ip e 0 else ab
 |.bd b E n el,.int _ k=>if i0 P ty=j el/\0<=k/\k<n then j (.ptr b (E+k.toNat) 0)else ab
 |.ptr b i off,.int _ k=>(o9 P ty).bind λq=>if cB P q.2≠0/\0<=k/\k<q.1 then j (.ptr b i (off+k.toNat*cB P q.2))else ab
 |.ip e off,.int _ k=>(o9 P ty).bind λq=>if cB P q.2≠0/\0<=k/\k<q.1 then j (.ip e (off+k.toNat*cB P q.2))else ab
 |_,_=>ab
def tW(P:cp)(ty:aT)(x k:I):Option I:=
 match x,k with
 |.str s,.int _ k=>if nc P ty=Q/\0<=k then(s[k.toNat]?).map λc=>.int .u8 c.toNat else ab
 |.agg cs,.int _ k=>(o9 P ty).bind λq=>if(P.underlying q.2).isSome/\cB P q.2≠0/\0<=k/\k<q.1 then gG (jc P q.2) (cB P q.2) cs (k.toNat*cB P q.2)else ab
 |_,_=>ab
def iP(P:cp)(t:List I)(E:a0):Option I:=
 match E.op with
 |.move x=>j (be t x)
 |.assign x=>j (be t x)
 |.pick c a b=>match be t c with
   |.bool v=>j (if v then be t a else be t b)
   |_=>ab
 |.build ty parts=>(jv P ty).bind λz=>match qJ P ty with
   |some pl=>if pl.all (λq=>cB P q.2 != 0)then(nS (pl.map λq=>(q.1,cB P q.2)) z (parts.toList.map λq=>(q.1,be t q.2))).map .agg else ab
   |none=>(o9 P ty).bind λq=>if cB P q.2=0 then ab else(nS ((iQ q.1).map λi=>(i*cB P q.2,cB P q.2)) z (parts.toList.map λq=>(q.1,be t q.2))).map .agg
 |.nilCheck x=>match be t x with
   |.ptr b i off=>j (.ptr b i off)
   |.e2 t b=>j (.e2 t b)
   |.ip e off=>j (.ip e off)
   |.fn f a c=>j (.fn f a c)
   |.iface q v=>j (.iface q v)
   |_=>ab
 |.binOp op ty x y _=>match be t x,be t y with
   |.hb,.hb=>match gR P ty,y,op with
     |.iface,.const _,.eql=>j (.bool Q)
     |.iface,.const _,.neq=>j (.bool T)
     |_,_,_=>ab
   |.agg xs,.agg dZ=>(sU P ty).bind λaZ=>match op with
     |.eql=>(qK aZ xs dZ).map λb=>.bool b
     |.neq=>(qK aZ xs dZ).map λb=>.bool !b
     |_=>ab
   |a,b=>dV (gR P ty) op a b
 |.unOp op _ x=>wM op (be t x)
 |.convert src dst x=>if(P.underlying src).isNone then ab else vp (gR P dst) (be t x)
 |.makeInterface ty x=>if tS P ty=T then ab else if(be t x).one then j (.iface ty (be t x))else match be t x with
   |.agg cs=>j (.iface ty (.agg cs))
   |_=>ab
 |.makeFunc f first captured=>match f with
   |.func g=>j (.fn g (first.toList.map (be t)) (captured.toList.map (be t)))
   |_=>ab
 |.slice ty x hg aa lP=>if lP.isSome|| !tT P ty (be t x)then ab else tV (be t x) (hg.map (be t)) (aa.map (be t))
 |.fieldAddr s x f=>((qJ P s).bind (·[f]?)).bind λq=>if cB P q.2=0 then ab else cf q.1 (be t x)
 |.field s x f=>((qJ P s).bind (·[f]?)).bind λq=>match be t x with
   |.agg cs=>if cB P q.2=0\/(P.underlying q.2).isNone then ab else gG (jc P q.2) (cB P q.2) cs q.1
   |_=>ab
 |.indexAddr ty x b8=>d8 P ty (be t x) (be t b8)
 |.index ty x b8=>tW P ty (be t x) (be t b8)
 |.typeAssert x _ aS ok=>match be t x with
   |.iface q v=>if tS P aS=Q/\q=aS then j (if ok then .bW [v,.bool Q]else v)else ab
   |_=>ab
 |.extract x i=>match be t x with
   |.bW br=>br[i]?
   |_=>ab
 |.call {callee:=.builtin .len,args,argTypes}=>match args.toList,argTypes.toList with
   |[x],ty::_=>if tT P ty (be t x)then(h0 (be t x)).map λ(n:Nat)=>C6 n else ab
   |_,_=>ab
 |.call {callee:=.builtin .min,args,..}=>match args.toList with
   |[x,y]=>vq T (be t x) (be t y)
   |_=>ab
 |.call {callee:=.builtin .max,args,..}=>match args.toList with
   |[x,y]=>vq Q (be t x) (be t y)
   |_=>ab
 |_=>ab
def eK(P:cp)(a2:aT->Bool)(t:List I)(h:ad)(E:a0):Option (I×ad):=
 match E.op with
 |.alloc e=>(jv P e).map λz=>(if a2 e then .e2 e h.n else .ptr h.n 0 0,h.push [z])
 |.box e x=>if(be t x).cells.all I.one/\(be t x).cells.length=cB P e then j (if a2 e then .e2 e h.n else .ptr h.n 0 0,h.push [(be t x).cells])else ab
 |.buildSlice ty len parts=>(i0 P ty).bind λe=>(jv P e).bind λz=>if len*cB P e<=16777216 then
   (nT (cB P e) (ax len z) (parts.toList.map λq=>(q.1,be t q.2))).map λes=>
    if a2 ty then(.bd h.n 0 len e,h.push es)else if a2 (ty+1000000)then(.bR ab e es,h)else(.bR (j h.ids) e es,h.fresh len)
   else ab
 |.load ty a=>if(P.underlying ty).isNone then ab else(c0 (jc P ty) (cB P ty) h (be t a)).map λv=>(v,h)
 |.store ty a x=>if cB P ty=0 then ab else(ew (cB P ty) h (be t a) (be t x)).map λJ=>(.aP,J)
 |.makeSlice ty l c=>match be t l,be t c with
   |.int _ n,.int _ m=>(i0 P ty).bind λe=>(jv P e).bind λz=>if 0<=n/\n=m/\n<=100000 then j (.bd h.n 0 n.toNat e,h.push (ax n.toNat z))else ab
   |_,_=>ab
 |.call {callee:=.builtin .append,args,argTypes}=>match args.toList,argTypes.toList with
   |[x,y],[ty,rO]=>if ty=rO then(i0 P ty).bind λe=>if(jv P e).isSome then fx (a2 ty) e (be t x) (be t y) h else ab else if nc P rO then(i0 P ty).bind λe=>if z9 P e then z' (a2 ty) e (be t x) (be t y) h else ab else ab
   |_,_=>ab
 |_=>(iP P t E).map λv=>(v,h)
def lQ(t:List I)(E:a0):Option I:=
 match E.op with
 |.panic x=>match be t x with
   |.iface q v=>j (.iface q v)
   |_=>ab
 |_=>ab
def hy(ops:Array a0)(t:List I)(E:a0):Option Bool:=
 match E.guard with
 |none=>j Q
 |some (D,want)=>match(ops[D]?).bind (·.dst)with
   |some d=>match t.getD d .aP with
     |.bool b=>j (if want then b else !b)
     |.bW _=>j T
     |_=>ab
   |none=>ab
inductive hJ where
 |code (c:ff)
 |inBlock (id:Nat)
 |inLoop (c:ff)
 |ops (draw:Bool) (all:Array a0) (l:List (a0×List a0))
 |halt (K:List Item)
def mH(id:Nat):List hJ->Option (List hJ)
 |[]=>ab
 |.inBlock i::k=>if i=id then j k else mH id k
 |.halt _::_=>ab
 |_::k=>mH id k
inductive jd where
 |ret
 |panic (v:I)
 |halt (K:List Item)
def oA(P:cp)(t:List I)(h:ad):List ResultVar->Option (List I)
 |[]=>j []
 |.tmp i::rs=>(oA P t h rs).map λl=>t.getD i .aP::l
 |.cell i ty::rs=>if(P.underlying ty).isNone then ab else(c0 (jc P ty) (cB P ty) h (t.getD i .aP)).bind λv=>(oA P t h rs).map λl=>v::l
def iH:List I->I
 |[v]=>v
 |br=>.bW br
def oB(fn:Func)(t:List I)(h:ad)(P:cp):Option I:=(oA P t h fn.results.toList).map iH
def lR(E:a0):Bool:=match E.op with
 |.alloc _|.box .. |.buildSlice .. |.store .. |.makeSlice .. |.panic _=>T
 |.call {callee:=.builtin .append,..}=>T
 |.call {callee:=.value _,..}=>T
 |_=>Q
def qM(E:a0):Bool:=match E.op with
 |.load .. =>Q
 |_=>T
def ks(M:Array Nat)(i D:Nat):Bool:=(M.getD D 0).testBit i
def yq(ops:Array a0)(M:Array Nat):Bool:=(iQ ops.size).all λD=>(iQ ops.size).all λi=> !ks M i D||((ops[D]?).any λE=>E.after.any λe=>j8 .any e&&decide (e.on<D)&&(e.on==i||ks M i e.on))
def rP(cq:aT->Bool)(E:a0):Bool:=match E.op,E.guard,E.dst with
 |.alloc e,ab,j _=>cq e&&decide (e<2000000)
 |_,_,_=>T
def qN(cq:aT->Bool)(E:a0):Bool:=lR E||(match E.op with|.buildSlice ty _ _=>cq (ty+2000000)|_=>T)
def C8(cq:aT->Bool)(ops:Array a0)(M:Array Nat)(x y:Nat×List Nat):Bool:=
 let qO:=ops.getD x.1 default;let vr:=ops.getD y.1 default
 x.1 != y.1&&
 !(qO.after.any λe=>j8 .any e&&e.on==y.1)&& !ks M y.1 x.1&&
 (qN cq qO||rP cq vr||ks M x.1 y.1)&&
 (qN cq vr|| !qM qO||ks M x.1 y.1||y.2.contains x.1)&&
 (match vr.dst with|some d=> !(qO.looksAt ops).contains d&&qO.dst != j d|none=>Q)&&
 (match qO.dst with|some d=> !(vr.looksAt ops).contains d||ks M x.1 y.1|none=>Q)
def Aa(cq:aT->Bool)(ops:Array a0)(M:Array Nat):List (Nat×List Nat)->Bool
 |[]=>Q
 |x::r=>r.all (C8 cq ops M x)&&Aa cq ops M r
def Hh(cq:aT->Bool)(ops:Array a0)(pl:List (Nat×List Nat)):Bool:=
 let M:=lq ops
 (iQ ops.size).all (λi=>pl.any λq=>q.1==i)&&pl.all (λq=>decide (q.1<ops.size)&&(let E:=ops.getD q.1 default
  (match E.dst with|some d=> !(E.looksAt ops).contains d|none=>Q)&&(!lR E||q.2.isEmpty)&&(match E.op with|.select .. =>T|_=>Q)&&q.2.all λi=>decide (i<ops.size)))&&
 ((iQ ops.size).all λD=>(ops.getD D default).after.all λe=> !j8 .any e||decide (e.on<D))&&
 yq ops M&&Aa cq ops M pl
def Hi(bY:List (Nat×Nat))(ops:Array a0)(M:Array Nat)(x y:Nat×List Nat):Bool:=
 let qO:=ops.getD x.1 default;let vr:=ops.getD y.1 default;let p:=ks M x.1 y.1||bY.contains (x.1,y.1)
 x.1 != y.1&&(lR qO||p)&&(lR vr|| !qM qO||p||y.2.contains x.1)&&
 (match vr.dst with|some d=> !(qO.looksAt ops).contains d&&qO.dst != j d|none=>Q)&&
 (match qO.dst with|some d=> !(vr.looksAt ops).contains d||p|none=>Q)
def wN(bY:List (Nat×Nat))(ops:Array a0)(pl:List (Nat×List Nat)):Bool:=
 let M:=lq ops
 (iQ ops.size).all (λi=>pl.any λq=>q.1==i)&&pl.all (λq=>decide (q.1<ops.size))&&pl.all (λq=>let E:=ops.getD q.1 default
  (match E.dst with|some d=> !(E.looksAt ops).contains d|none=>Q))&&
 ((iQ ops.size).all λD=>(ops.getD D default).after.all λe=> !j8 .any e||decide (e.on<D))&&
 yq ops M&&((iQ pl.length).all λD=>(iQ D).all λi=>Hi bY ops M (pl.getD i default) (pl.getD D default))
def pS(E:a0):Bool:=match E.op,E.guard,E.dst with
 |.store ..,ab,ab=>Q
 |_,_,_=>T
def Hj(ops:Array a0)(pl:List (Nat×List Nat)):Bool:=match pl.reverse with
 |(y,[iI])::(x,[])::r=>iI==x&&x != y&&pS (ops.getD x default)&&pS (ops.getD y default)&&wN [(x,y)] ops (r.reverse++[(x,[]),(y,[])])&&wN [(y,x)] ops (r.reverse++[(y,[]),(x,[])])
 |_=>T
def C9(n:Nat)(cq:aT->Bool)(ops:Array a0)(pl:List (Nat×List Nat)):Bool:=
 let M:=lq ops
 pl.length==n&&(iQ n).all (λi=>pl.any λq=>q.1==i)&&pl.all (λq=>decide (q.1<n))&&pl.all (λq=>let E:=ops.getD q.1 default
  (match E.dst with|some d=> !(E.looksAt ops).contains d|none=>Q))&&
 ((iQ ops.size).all λD=>(ops.getD D default).after.all λe=> !j8 .any e||decide (e.on<D))&&
 yq ops M&&Aa cq ops M pl
def Hk(cq:aT->Bool)(ops:Array a0)(pl:List (Nat×List Nat)):Bool:=match pl.reverse with
 |(y,[])::r=>y+1==ops.size&&(iQ y).all (λi=>ks (lq ops) i y)&&C9 y cq ops r.reverse
 |_=>T
def yr(S:Nat->Bool)(ops:Array a0):Bool:=ops.toList.all λE=>match E.dst with|some d=> !S d|none=>Q
def Ab(S:Nat->Bool)(e:aT):Bool:=S (1000000+e)
def iJ(pl:Nat->List (Nat×List Nat))(S:Nat->Bool):ff->Bool
 |.region id ops d=> !d||((Hh (Ab S) ops (pl id)||Hj ops (pl id)||Hk (Ab S) ops (pl id))&&yr S ops)
 |.seq a b=>iJ pl S a&&iJ pl S b
 |.cond _ a b=>iJ pl S a&&iJ pl S b
 |.block _ b=>iJ pl S b
 |.loop b=>iJ pl S b
 |_=>Q
structure hh where
 ext:cJ->Option (List I->ad->Option ((I⊕I)×ad))
 a2:cJ->aT->Bool
 aI:cJ->Nat
 cm:cJ->Nat->List (Nat×List Nat)
 use:cJ->Bool
 pure:cJ->Bool
 e3:cJ->Nat->Bool
mutual
def dA:I->Option I
 |.bR _ z es=>(pT es).map (.bR ab z)
 |.agg cs=>(o' cs).map .agg
 |.bW br=>(o' br).map .bW
 |.iface t v=>(dA v).map (.iface t)
 |.ip _ _|.ptr _ _ _|.e2 _ _|.bd _ _ _ _|.fn _ _ _=>ab
 |.aP=>j .aP
 |.bool b=>j (.bool b)
 |.int k n=>j (.int k n)
 |.str s=>j (.str s)
 |.gd=>j .gd
 |.aF=>j .aF
 |.mb=>j .mb
 |.hb=>j .hb
def o':List I->Option (List I)
 |[]=>j []
 |v::l=>match dA v,o' l with
   |some v,j l=>j (v::l)
   |_,_=>ab
def pT:List (List I)->Option (List (List I))
 |[]=>j []
 |v::l=>match o' v,pT l with
   |some v,j l=>j (v::l)
   |_,_=>ab
end
structure aK(h J:ad):Prop where
 n:h.n<=J.n
 ids:h.ids<=J.ids
 cell:∀b,b<h.n->J.cell b=h.cell b
 hw:∀k,k<h.ids->J.hw k=h.hw k
open Classical in
noncomputable def lS(p:Bool)(h:ad)(q:(I⊕I)×ad):Option ((I⊕I)×ad):=
 if p=Q then(if aK h q.2 then(match q.1 with
  |.inl v=>(dA v).map λv=>(.inl v,h)
  |.inr v=>(dA v).map λv=>(.inr v,h))else ab)else j q
def nV(P:cp)(all:Array a0)(t:List I)(h:ad):List a0->Prop
 |[]=>True
 |E::r=>(match hy all t E with
    |some Q=>(match E.op,E.dst with
      |.load ty a,j d=>c0 (jc P ty) (cB P ty) h (be t a)=j (t.getD d .aP)
      |.store ty a x,ab=>c0 (jc P ty) (cB P ty) h (be t a)=j (be t x)
      |_,_=>False)
    |_=>True)/\nV P all t h r
def iK(draw:Bool)(ops:Array a0)(pl:List (Nat×List Nat)):List (a0×List a0):=
 if draw then pl.map λq=>(ops.getD q.1 default,q.2.map λi=>ops.getD i default)else ops.toList.map λE=>(E,[])
def cF(n:Nat)(t:List I):List I:=t.take n++ax (t.length - n) .aP
def ys(P:cp)(fn:Func)(r:jd×List I×ad):Option ((I⊕I)×ad):=match r.1 with
 |.ret=>(oB fn r.2.1 r.2.2 P).map λv=>(.inl v,r.2.2)
 |.panic v=>j (.inr v,r.2.2)
 |.halt _=>ab
open Classical in
noncomputable def c6(P:cp)(W:hh)(f:cJ)(k:List hJ)(t:List I)(h:ad):Option (jd×List I×ad):=
 match k with
 |[]=>j (.ret,t,h)
 |.inBlock _::k=>c6 P W f k t h
 |.halt K::_=>j (.halt K,t,h)
 |.inLoop c::k=>c6 P W f (.code c::.inLoop c::k) (cF (W.aI f) t) h
 |.ops _ _ []::k=>c6 P W f k t h
 |.ops cN all ((E,bX)::l)::k=>
   match hy all t E with
   |none=>ab
   |some T=>c6 P W f (.ops cN all l::k) (ev t E.dst (.bW [])) h
   |some Q=>
    match lQ t E with
    |some v=>j (.panic v,t,h)
    |none=>
     match eW t E with
     |some (g,args)=>
       match W.ext g with
       |some ag=>ag args h>>= λr=>match r.1 with
         |.inl v=>if nV P all (ev t E.dst v) r.2 bX then c6 P W f (.ops cN all l::k) (ev t E.dst v) r.2 else ab
         |.inr v=>j (.panic v,t,r.2)
       |none=>match P.funcs[g]? with
         |none=>ab
         |some fn=>match fn.body with
           |none=>ab
           |some c=>if W.use g=T then ab else(c6 P W g [.code c] (args++ax (fn.ntmps - args.length) .aP) h)>>= λr=>ys P fn r>>= λq=>lS (W.pure g) h q>>= λq=>match q.1 with
             |.inl v=>if nV P all (ev t E.dst v) q.2 bX then c6 P W f (.ops cN all l::k) (ev t E.dst v) q.2 else ab
             |.inr v=>j (.panic v,t,q.2)
     |none=>eK P (W.a2 f) t h E>>= λr=>if nV P all (ev t E.dst r.1) r.2 bX then c6 P W f (.ops cN all l::k) (ev t E.dst r.1) r.2 else ab
 |.code c::k=>
   match c with
   |.skip=>c6 P W f k t h
   |.label _=>c6 P W f k t h
   |.seq a b=>c6 P W f (.code a::.code b::k) t h
   |.cond c x y=>match be t c with
     |.bool b=>if b then c6 P W f (.code x::k) t h else c6 P W f (.code y::k) t h
     |_=>ab
   |.block id b=>c6 P W f (.code b::.inBlock id::k) t h
   |.loop b=>c6 P W f (.code b::.inLoop b::k) (cF (W.aI f) t) h
   |.exit id=>mH id k>>= λcn=>c6 P W f cn t h
   |.ret=>j (.ret,t,h)
   |.region id ops d=>c6 P W f (.ops d ops (iK d ops (W.cm f id))::k) t h
   |_=>ab
partial_fixpoint
abbrev tX:=Option (jd×List I×ad)
noncomputable def a3(P:cp)(W:hh)(g:cJ)(args:List I)(h:ad):Option ((I⊕I)×ad):=
 match W.ext g with
 |some ag=>ag args h
 |none=>match P.funcs[g]? with
   |none=>ab
   |some fn=>match fn.body with
     |none=>ab
     |some c=>if W.use g=T then ab else(c6 P W g [.code c] (args++ax (fn.ntmps - args.length) .aP) h).bind λr=>(ys P fn r).bind λq=>lS (W.pure g) h q
section
variable(P:cp)(W:hh)(f:cJ)
open Classical in
noncomputable def yt(cN:Bool)(all:Array a0)(l:List (a0×List a0))(k:List hJ)(t:List I)(h:ad)(bX:List a0):tX:=if nV P all t h bX then c6 P W f (.ops cN all l::k) t h else ab
noncomputable def Hl(cN:Bool)(all:Array a0)(d:Option Tmp)(bX:List a0)(l:List (a0×List a0))(k:List hJ)(t:List I):Option (I×ad)->tX
 |some (v,h)=>yt P W f cN all l k (ev t d v) h bX
 |none=>ab
noncomputable def Eq(cN:Bool)(all:Array a0)(d:Option Tmp)(bX:List a0)(l:List (a0×List a0))(k:List hJ)(t:List I):Option ((I⊕I)×ad)->tX
 |some (.inl v,h)=>yt P W f cN all l k (ev t d v) h bX
 |some (.inr v,h)=>j (.panic v,t,h)
 |none=>ab
noncomputable def yu(cN:Bool)(all:Array a0)(E:a0)(bX:List a0)(l:List (a0×List a0))(k:List hJ)(t:List I)(h:ad):Option (cJ×List I)->tX
 |some (g,args)=>Eq P W f cN all E.dst bX l k t (a3 P W g args h)
 |none=>Hl P W f cN all E.dst bX l k t (eK P (W.a2 f) t h E)
noncomputable def Ac(cN:Bool)(all:Array a0)(E:a0)(bX:List a0)(l:List (a0×List a0))(k:List hJ)(t:List I)(h:ad):Option I->tX
 |some v=>j (.panic v,t,h)
 |none=>yu P W f cN all E bX l k t h (eW t E)
noncomputable def C'(cN:Bool)(all:Array a0)(E:a0)(bX:List a0)(l:List (a0×List a0))(k:List hJ)(t:List I)(h:ad):Option Bool->tX
 |some Q=>Ac P W f cN all E bX l k t h (lQ t E)
 |some T=>c6 P W f (.ops cN all l::k) (ev t E.dst (.bW [])) h
 |none=>ab
noncomputable def Hm(x y:ff)(k:List hJ)(t:List I)(h:ad):I->tX
 |.bool b=>if b then c6 P W f (.code x::k) t h else c6 P W f (.code y::k) t h
 |_=>ab
noncomputable def Nb(t:List I)(h:ad):Option (List hJ)->tX
 |some k=>c6 P W f k t h
 |none=>ab
noncomputable def wO(p:Bool)(fn:Func)(ae:ad):tX->Option ((I⊕I)×ad)
 |some (.ret,t,h)=>gf p ae h (oB fn t h P)
 |some (.panic v,_,h)=>lS p ae (.inr v,h)
 |some (.halt _,_,_)=>ab
 |none=>ab
where gf (p:Bool) (ae h:ad):Option I->Option ((I⊕I)×ad)
 |some v=>lS p ae (.inl v,h)
 |none=>ab
end
section
variable{P:cp}{W:hh}{f:cJ}{k:List hJ}{t:List I}{h:ad}
theorem WB:c6 P W f [] t h=j (.ret,t,h):=by rw[c6]
theorem WC{K:List Item}:c6 P W f (.halt K::k) t h=j (.halt K,t,h):=by rw[c6]
theorem WD{id:Nat}:c6 P W f (.inBlock id::k) t h=c6 P W f k t h:=by rw[c6]
theorem WE{c:ff}:c6 P W f (.inLoop c::k) t h=c6 P W f (.code c::.inLoop c::k) (cF (W.aI f) t) h:=by rw[c6]
theorem WG{all:Array a0}:c6 P W f (.ops cN all []::k) t h=c6 P W f k t h:=by rw[c6]
theorem WH:c6 P W f (.code .skip::k) t h=c6 P W f k t h:=by rw[c6]
theorem WI{l:Nat}:c6 P W f (.code (.label l)::k) t h=c6 P W f k t h:=by rw[c6]
theorem Hn{a b:ff}:c6 P W f (.code (.seq a b)::k) t h=c6 P W f (.code a::.code b::k) t h:=by rw[c6]
theorem WJ{id:Nat}{b:ff}:c6 P W f (.code (.block id b)::k) t h=c6 P W f (.code b::.inBlock id::k) t h:=by rw[c6]
theorem WK{b:ff}:c6 P W f (.code (.loop b)::k) t h=c6 P W f (.inLoop b::k) t h:=by
 conv=>lhs;rw[c6]
 conv=>rhs;rw[c6]
theorem WL:c6 P W f (.code .ret::k) t h=j (.ret,t,h):=by rw[c6]
theorem WM{id:Nat}{ops:Array a0}{d:Bool}:c6 P W f (.code (.region id ops d)::k) t h=c6 P W f (.ops d ops (iK d ops (W.cm f id))::k) t h:=by rw[c6]
theorem WN{id:Nat}:c6 P W f (.code (.exit id)::k) t h=Nb P W f t h (mH id k):=by rw[c6];cases mH id k<;>rfl
theorem Nc{c:fi}{x:ff}:c6 P W f (.code (.cond c x y)::k) t h=Hm P W f x y k t h (be t c):=by rw[c6];cases be t c<;>rfl
theorem Ad{all:Array a0}{E:a0}{l:List (a0×List a0)}:c6 P W f (.ops cN all ((E,bX)::l)::k) t h=C' P W f cN all E bX l k t h (hy all t E):=by
 rw[c6];rcases hy all t E with _|⟨_|_⟩
 ·rfl
 ·rfl
 ·simp only[C'];rcases aB:lQ t E with _|v
  case some=>rfl
  simp only[Ac];rcases aj:eW t E with _|⟨g,args⟩
  ·simp only[yu];rcases eK P (W.a2 f) t h E with _|⟨v,J⟩<;>rfl
  ·simp only[yu,a3];cases an:W.ext g with
   |some ag=>simp only;rcases ag args h with _|⟨_|_,J⟩<;>rfl
   |none=>
     simp only;cases bc:P.funcs[g]? with
     |none=>rfl
     |some fn=>
       simp only;cases ai:fn.body with
       |none=>rfl
       |some c=>
         by_cases bH:W.use g=T
         ·simp only[bH,if_true];rfl
         ·simp only[bH];generalize c6 P W g [.code c] (args++ax (fn.ntmps - args.length) .aP) h=r;rcases r with _|r
          ·rfl
          ·simp only[c7,Option.bind_eq_bind];rcases ys P fn r with _|q
           ·rfl
           ·simp only[c7];rcases lS (W.pure g) h q with _|⟨_|_,J⟩<;>rfl
theorem Da{all:Array a0}{E:a0}{l:List (a0×List a0)}:C' P W f cN all E bX l k t h (j Q)=Ac P W f cN all E bX l k t h (lQ t E):=rfl
theorem Ho{all:Array a0}{E:a0}{l:List (a0×List a0)}:Ac P W f cN all E bX l k t h ab=yu P W f cN all E bX l k t h (eW t E):=rfl
theorem WO{all:Array a0}{E:a0}{l:List (a0×List a0)}{v:I}:Ac P W f cN all E bX l k t h (j v)=j (.panic v,t,h):=rfl
theorem WQ{all:Array a0}{E:a0}{l:List (a0×List a0)}:C' P W f cN all E bX l k t h (j T)=c6 P W f (.ops cN all l::k) (ev t E.dst (.bW [])) h:=rfl
theorem Nd{all:Array a0}{E:a0}{l:List (a0×List a0)}{g:cJ}{args:List I}:yu P W f cN all E bX l k t h (j (g,args))=Eq P W f cN all E.dst bX l k t (a3 P W g args h):=rfl
theorem WR{all:Array a0}{E:a0}{l:List (a0×List a0)}:yu P W f cN all E bX l k t h ab=Hl P W f cN all E.dst bX l k t (eK P (W.a2 f) t h E):=rfl
theorem WS{all:Array a0}{d:Option Tmp}{l:List (a0×List a0)}{v:I}:Hl P W f cN all d bX l k t (j (v,h))=yt P W f cN all l k (ev t d v) h bX:=rfl
theorem WT{all:Array a0}{d:Option Tmp}{l:List (a0×List a0)}{v:I}:Eq P W f cN all d bX l k t (j (.inl v,h))=yt P W f cN all l k (ev t d v) h bX:=rfl
theorem WU{all:Array a0}{d:Option Tmp}{l:List (a0×List a0)}{v:I}:Eq P W f cN all d bX l k t (j (.inr v,h))=j (.panic v,t,h):=rfl
theorem WV{x:ff}:Hm P W f x y k t h (.bool Q)=c6 P W f (.code x::k) t h:=rfl
theorem WW{x:ff}:Hm P W f x y k t h (.bool T)=c6 P W f (.code y::k) t h:=rfl
theorem Nf{all:Array a0}{l:List (a0×List a0)}(aj:nV P all t h bX):yt P W f cN all l k t h bX=c6 P W f (.ops cN all l::k) t h:=by simp[yt,aj]
theorem WX{k:List hJ}:Nb P W f t h (j k)=c6 P W f k t h:=rfl
theorem WY{fn:Func}{p:Bool}{ae:ad}:wO P p fn ae (j (.ret,t,h))=wO.gf p ae h (oB fn t h P):=rfl
theorem yv{p:Bool}{ae:ad}{v:I}:wO.gf p ae h (j v)=lS p ae (.inl v,h):=rfl
theorem wP{ae:ad}{q:(I⊕I)×ad}:lS T ae q=j q:=by simp[lS]
theorem fR{ae:ad}{v bu:I}(aX:aK ae h)(R:dA v=j bu):lS Q ae (.inl v,h)=j (.inl bu,ae):=by simp[lS,aX,R]
theorem Ae{ae:ad}{v bu:I}(aX:aK ae h)(R:dA v=j bu):lS Q ae (.inr v,h)=j (.inr bu,ae):=by simp[lS,aX,R]
theorem WZ{g:cJ}{fn:Func}{c:ff}{args:List I}{p:Bool}(an:W.ext g=ab)(bc:P.funcs[g]? =j fn)(ai:fn.body=j c)(bH:W.use g=Q)(aB:W.pure g=p):a3 P W g args h=wO P p fn h (c6 P W g [.code c] (args++ax (fn.ntmps - args.length) .aP) h):=by
 unfold a3;simp only[an,bc,ai,bH,aB];generalize c6 P W g [.code c] (args++ax (fn.ntmps - args.length) .aP) h=r;rcases r with _|⟨_|_|_,cV,J⟩
 ·rfl
 ·simp only[Bool.true_eq_false,if_false,c7,ys,wO];rcases oB fn cV J P with _|v<;>rfl
 ·rfl
 ·rfl
end
open Go.RowKit
structure g4(ag:Nat->Prop)(w aV:cQ):Prop where
 os:aV.os=w.os
 tape:aV.tape=w.tape
 output:aV.output=w.output
 size:w.heap.size<=aV.heap.size
 block:∀k,k<w.heap.size->¬ag k->aV.heap[k]? =w.heap[k]?
theorem g4.refl(ag:Nat->Prop)(w:cQ):g4 ag w w:=⟨rfl,rfl,rfl,bV _,λ_ _ _=>rfl⟩
theorem g4.step{ag G:Nat->Prop}{a b c:cQ}(h:g4 ag a b)(k:g4 G b c)(dR:∀i,i<a.heap.size->G i->ag i):g4 ag a c:=⟨k.os.trans h.os,k.tape.trans h.tape,k.output.trans h.output,ef h.size k.size,λi aa au=>(k.block i (eL aa h.size) (λaX=>au (dR i aa aX))).trans (h.block i aa au)⟩
theorem g4.drew{ag:Nat->Prop}{a w:cQ}(h:g4 ag a w):g4 ag a w.drew:=⟨h.os,h.tape,h.output,h.size,h.block⟩
theorem g4.alloc{ag:Nat->Prop}{a w:cQ}(h:g4 ag a w)(E:Obj):g4 ag a (w.alloc E):=⟨h.os,h.tape,h.output,ef h.size (by simp),λk Z au=>(Below.heap_alloc w E k (eL Z h.size)).trans (h.block k Z au)⟩
end Go.Proofs.Ytkdbjfncchmmpaa
namespace Go.RowKit
open Go.Proofs.Ytkdbjfncchmmpaa
end Go.RowKit
namespace Go.Proofs.Ytkdbjfncchmmpaa
variable{cN:Bool}{d:TypeDesc}{y:ff}{bX:List a0}{u:bK}{ty:aT}
open Go.RowKit
abbrev lT(w aV:cQ):Prop:=g4 (λ_=>False) w aV
theorem lT.below{w aV:cQ}(h:lT w aV):Below w.heap.size w aV:=⟨h.os,h.tape,h.output,h.size,λk Z=>h.block k Z id⟩
theorem g4.below{ag:Nat->Prop}{B:Nat}{w aV:cQ}(h:g4 ag w aV)(cR:∀k,ag k->B<=k)(kZ:B<=w.heap.size):Below B w aV:=⟨h.os,h.tape,h.output,h.size,λk Z=>h.block k (by omega) (λbc=>by have:=cR k bc;omega)⟩
end Go.Proofs.Ytkdbjfncchmmpaa
namespace Go.RowKit
open Go.Proofs.Ytkdbjfncchmmpaa
end Go.RowKit
namespace Go.Proofs.Ytkdbjfncchmmpaa
variable{cN:Bool}{d:TypeDesc}{y:ff}{bX:List a0}{u:bK}{ty:aT}
open Go.RowKit
end Go.Proofs.Ytkdbjfncchmmpaa
namespace Go.RowKit
open Go.Proofs.Ytkdbjfncchmmpaa
end Go.RowKit
namespace Go.Proofs.Ytkdbjfncchmmpaa
variable{cN:Bool}{d:TypeDesc}{y:ff}{bX:List a0}{u:bK}{ty:aT}
open Go.RowKit
def jD(w:cQ)(g:Nat)(t:aT)(cs:Array bK):Prop:=w.heap[g]? =j (.cells cs t (0,0))
section
variable{w aV:cQ}{g:Nat}{t:aT}{cs:Array bK}
theorem jD.lt(h:jD w g t cs):g<w.heap.size:=by
 rcases mc g w.heap.size with bh|rQ
 ·exact bh
 ·unfold jD at h;rw[Array.getElem?_eq_none rQ]at h;cases h
theorem jD.cell(h:jD w g t cs)(i:Nat):w.cell? ⟨g,i,ab⟩=cs[i]? :=cell_of_row w g i cs t (0,0) h
theorem jD.new(w:cQ)(t:aT)(cs:Array bK):jD (w.alloc (.cells cs t)) w.heap.size t cs:=heap_alloc_new w _
theorem jD.only{ag:Nat->Prop}(h:jD w g t cs)(ai:g4 ag w aV)(aX:¬ag g):jD aV g t cs:=(ai.block g h.lt aX).trans h
end
def j9(w:cQ)(size:Nat)(A:Option Addr)(n cap:Nat)(xs:List bK):Prop:=xs.length=n*size/\n<=cap/\(A=ab->cap=0)/\∀a,A=j a->(0<n->a.spot=ab)/\∀D u,xs[D]? =j u->w.cell? ⟨a.block,a.off+D,ab⟩=j u
section
variable{w aV:cQ}{size n cap:Nat}{A:Option Addr}{xs:List bK}
theorem j9.some_(h:j9 w size A n cap xs)(au:0<n):∃b E,A=j ⟨b,E,ab⟩:=by
 obtain⟨_,aj,ae,F⟩:=h;rcases A with _|a
 ·have:=ae rfl;omega
 ·obtain⟨b,E,s⟩:=a;have:=(F _ rfl).1 au;simp at this;subst this;exact⟨b,E,rfl⟩
theorem j9.W0{b E:Nat}(h:j9 w size (j ⟨b,E,ab⟩) n cap xs){p:Nat}(U:xs[p]? =j u):w.cell? ⟨b,E+p,ab⟩=j u:=(h.2.2.2 _ rfl).2 p u U
theorem j9.W1{base:Nat}{e:aT}(h:w.ownsRow base e size (.slice A n cap) n xs):j9 w size A n cap xs:=by
 refine⟨h.1,?_⟩;rcases h.2 with⟨R,ae⟩|⟨g,pU,cur,R,_,bP,tY,_,nf,yw⟩
 ·simp at R;obtain⟨rfl,rfl,rfl⟩:=R;exact⟨bV _,λ_=>rfl,(λa h=>by cases h)⟩
 ·simp at R;obtain⟨rfl,rfl⟩:=R;refine⟨tY,(λh=>by cases h),λa aM=>?_⟩;obtain rfl:=nW aM;refine⟨λ_=>rfl,λD u bH=>?_⟩;have:=h.cells (g:=g) rfl D u bH;rwa [oC]at this
theorem j9.fH(h:j9 w size A n cap xs)(Z:∀p:Addr,A.map (·.block)=j p.block->w.cell? p≠ab->aV.cell? p=w.cell? p):j9 aV size A n cap xs:=by refine⟨h.1,h.2.1,h.2.2.1,λa aM=>⟨(h.2.2.2 a aM).1,λD u bH=>?_⟩⟩;have aj:=(h.2.2.2 a aM).2 D u bH;rw[Z _ (by simp[aM]) (by rw[aj];simp)];exact aj
theorem Ng{p:Addr}(h:w.cell? p≠ab):p.block<w.heap.size:=by
 rcases aj:w.cell? p with _|u
 ·exact absurd aj h
 ·exact World.block_lt_of_cell? w p aj
theorem j9.only{ag:Nat->Prop}(h:j9 w size A n cap xs)(am:g4 ag w aV)(cR:∀k,A.map (·.block)=j k->¬ag k):j9 aV size A n cap xs:=h.fH λp aB aj=>World.cell?_of_block (am.block _ (Ng aj) (cR _ aB))
theorem j9.new(h:j9 w size A n cap xs)(am:lT w aV):j9 aV size A n cap xs:=h.only am (λ_ _=>id)
theorem j9.W2{g:Nat}{t:aT}{cs:Array bK}{E:Nat}(h:jD w g t cs)(au:n<=cap)(an:xs.length=n*size)(aj:∀D u,xs[D]? =j u->cs[E+D]? =j u):j9 w size (j ⟨g,E,ab⟩) n cap xs:=
 by
 refine⟨an,au,(λh=>by cases h),λa aM=>?_⟩;obtain rfl:=nW aM;exact⟨λ_=>rfl,λD u bH=>(h.cell (E+D)).trans (aj D u bH)⟩
end
theorem W3{P:cp}(base:Nat)(t ty e:aT)(i:TypeInfo)(z:bK)(size bytes:Nat)(aL:P.underlying t=j (.slice e))(aa:P.info? e=j i)(aN:i.zero=j z)(qP:i.size=size)(rR:i.bytes=bytes)(Af:z.cells.size=size)(ey:0<size)(v:bK)(n:Nat)(xs:List bK)(w:cQ)(hK:w.ownsRow base e size v n xs)(A:Option Addr)(m c:Nat)(dZ:List bK)(ah:j9 w size A m c dZ)(F:∀u∈dZ,u.oneCell'=Q)(tZ:n+m<=maxLen)(wQ:(n+m)*bytes<=140737488355328)(wR:base<=w.heap.size):∃bu aV,(t' #[t,t] ty #[v,.slice A m c]).run P w= .ok bu aV/\aV.ownsRow base e size bu (n+m) (xs++dZ)/\g4 (λk=>j k=v.ownBlock) w aV/\(bu.ownBlock=v.ownBlock\/bu.ownBlock=j w.heap.size)/\(0<n+m->∃g cap,bu= .slice (j ⟨g,0,ab⟩) (n+m) cap):=by
 rcases A with _|nX
 ·have Hp:=ah.2.2.1 rfl;have amH:=ah.2.1;obtain rfl:m=0:=by omega
  subst Hp;have au:dZ=[]:=List.eq_nil_of_length_eq_zero (by simpa using ah.1);subst au;refine⟨v,w,run_append_owned_none (P:=P) w base t ty e i size aL aa v n xs hK,by simpa using hK,g4.refl _ _,.inl rfl,λae=>?_⟩;rcases hK.2 with⟨rfl,h⟩|⟨g,cap,cur,rfl,_⟩
  ·omega
  ·exact⟨g,cap,rfl⟩
 ·have yx:∀D u,dZ[D]? =j u->w.cell? (nX.add D)=j u:=by
   intro D u bH;obtain⟨av,sV⟩:=ah.2.2.2 nX rfl;have:=sV D u bH;obtain⟨b,E,W4⟩:=nX;have hm:0<m:=by
    rcases Nat.eq_zero_or_pos m with ae|ae
    ·subst ae;have au:dZ=[]:=List.eq_nil_of_length_eq_zero (by simpa using ah.1);subst au;simp at bH
    ·exact ae
   have av:=av hm;simp at av;subst av;rw[oC];exact this
  obtain⟨bu,aV,kt,O,af,aw,bg⟩:=run_append_own_at (P:=P) w base t ty e i z size bytes aL aa aN qP rR Af ey v n xs hK nX m c dZ ah.1 yx F tZ wQ wR;refine⟨bu,aV,kt,O,⟨af.os,af.tape,af.output,af.size,af.block⟩,bg,λae=>?_⟩;rcases O.2 with⟨_,h⟩|⟨g,cap,cur,rfl,_⟩
  ·omega
  ·exact⟨g,cap,rfl⟩
theorem W5{P:cp}{ops:Array a0}{rest:List a0}{E:a0}{a:Act}{cH:Exit->Act->cQ->Prop}(W6:E.guard=ab)(s x:fi)(t:aT)(am:E.op= .call {callee:=.builtin .append,args:= #[s,x],argTypes:= #[t,t]})(base:Nat)(e:aT)(i:TypeInfo)(z:bK)(size bytes:Nat)(aL:P.underlying t=j (.slice e))(aa:P.info? e=j i)(aN:i.zero=j z)(qP:i.size=size)(rR:i.bytes=bytes)(Af:z.cells.size=size)(ey:0<size)(v:bK)(n:Nat)(xs:List bK)(w:cQ)(av:a.eval s=v)(hK:w.ownsRow base e size v n xs)(A:Option Addr)(m c:Nat)(dZ:List bK)(an:a.eval x= .slice A m c)(ah:j9 w size A m c dZ)(F:∀u∈dZ,u.oneCell'=Q)(tZ:n+m<=maxLen)(wQ:(n+m)*bytes<=140737488355328)(wR:base<=w.heap.size)(h:∀bu aV,aV.ownsRow base e size bu (n+m) (xs++dZ)->g4 (λk=>j k=v.ownBlock) w aV->(bu.ownBlock=v.ownBlock\/bu.ownBlock=j w.heap.size)->(0<n+m->∃g cap,bu= .slice (j ⟨g,0,ab⟩) (n+m) cap)->wpList P ops cH rest (a.put E.dst bu) aV):wpList P ops cH (E::rest) a w:=by refine wpList_plain W6 λ_ ei=>?_;obtain⟨bu,aV,kt,O,af,aw,bg⟩:=W3 (P:=P) base t E.type e i z size bytes aL aa aN qP rR Af ey v n xs w hK A m c dZ ah F tZ wQ wR;unfold Oper.wp eG;simp only[am,resolve,invoke,builtin,hi,ku,hc,List.map_toArray,jU,qQ,av,an,kt];exact ei _ _ (h bu aV O af aw bg)
theorem Nh{ag:Nat->Prop}{w aV:cQ}{base:Nat}{e:aT}{size:Nat}{v:bK}{n:Nat}{xs:List bK}(h:w.ownsRow base e size v n xs)(am:g4 ag w aV)(al:∀g,v.ownBlock=j g->¬ag g):aV.ownsRow base e size v n xs:=by
 refine⟨h.1,?_⟩;rcases h.2 with F|⟨g,cap,cur,rfl,aX,bP,r⟩
 ·exact .inl F
 ·exact .inr ⟨g,cap,cur,rfl,aX,(jD.only (t:=e) bP am (al g rfl)),r⟩
@[simp] theorem MY (g n cap:Nat):(Value.slice (some ⟨g,0,none⟩) n cap).ownBlock=some g:=rfl
@[simp] theorem MX (n cap:Nat):(Value.slice none n cap).ownBlock=none:=rfl
theorem amI{α:Type}{f:α->List bK}{s:Nat}(bc:∀a,(f a).length=s)(l:List α):(l.flatMap f).length=l.length*s:=by
 induction l with
 |nil=>simp
 |cons a l aW=>simp[List.flatMap_cons,aW,bc,Nat.add_mul];omega
open Go Go.RowKit
structure dw where
 base:Nat
 cb:Nat->Nat
 fY:Nat->aT
 md:Nat->Nat
 dF:Nat->Nat->Option bK
 h1:Nat->Nat
 qR:Nat->Nat
 kJ:Nat->aT
 e4:Nat->Option Obj
inductive bI(P:cp)(m:dw)(h:ad):I->bK->Prop
 |aP (v:bK):bI P m h .aP v
 |bool (b:Bool):bI P m h (.bool b) (.bool b)
 |int (k:jC) (n:Int):bI P m h (.int k n) (.int k n)
 |str (l:List UInt8):bI P m h (.str l) (.string ⟨l.toArray⟩)
 |gd:bI P m h .gd (.pointer ab)
 |ptr (b i off:Nat) (ai:b<h.n):bI P m h (.ptr b i off) (.pointer (j ⟨m.cb b,i*P.cellsOf (m.fY b)+off,ab⟩))
 |e2 (t:aT) (b:Nat) (ai:b<h.n) (aL:m.fY b=t):bI P m h (.e2 t b) (.pointer (j ⟨m.cb b,0,ab⟩))
 |ip (e:List I) (off g E:Nat) (ag:Nat->bK) (aa:∀D,D<e.length->m.dF g (E+D)=j (ag D)) (R:∀D (U:D<e.length),bI P m h e[D] (ag D)):bI P m h (.ip e off) (.pointer (j ⟨g,E+off,ab⟩))
 |aF:bI P m h .aF (.slice ab 0 0)
 |bR (id:Option Nat) (e:aT) (es:List (List I)) (g E cap:Nat) (ag:Nat->Nat->bK) (al:∀r∈es,r.length=P.cellsOf e)
   (aa:∀i,i<es.length->∀D,D<P.cellsOf e->m.dF g (E+(i*P.cellsOf e+D))=j (ag i D)) (R:∀i (aa:i<es.length) D (U:D<es[i].length),bI P m h es[i][D] (ag i D)) (aj:es.length<=cap)
   (aL:∀k,id=j k->k<h.ids/\m.kJ k=e/\es.length<=h.hw k/\(es.length=h.hw k->g=m.h1 k/\E=0/\cap=m.qR k)):bI P m h (.bR id e es) (.slice (j ⟨g,E,ab⟩) es.length cap)
 |me (e:aT) (a:Addr) (cap:Nat):bI P m h (.bR ab e []) (.slice (j a) 0 cap)
 |bd (b E n:Nat) (e:aT) (cap:Nat) (ai:b<h.n) (he:m.fY b=e) (i1:(E+cap)*P.cellsOf e=m.md b) (au:n<=cap) (i2:cap<=maxLen):bI P m h (.bd b E n e) (.slice (j ⟨m.cb b,E*P.cellsOf e,ab⟩) n cap)
 |fn (g:cJ) (l c:List I) (bJ fy:List bK) (F:bJ.length=l.length) (O:fy.length=c.length) (af:∀D (U:D<l.length) (cS:D<bJ.length),bI P m h l[D] bJ[D]) (aw:∀D (U:D<c.length) (cS:D<fy.length),bI P m h c[D] fy[D]):
   bI P m h (.fn g l c) (.func (.func g) bJ.toArray fy.toArray)
 |mb:bI P m h .mb .nilFunc
 |hb:bI P m h .hb .nilIface
 |iface (t:aT) (v:I) (bu:bK) (F:bI P m h v bu):bI P m h (.iface t v) (.iface t bu)
 |agg (l:List I) (bJ:List bK) (F:bJ.length=l.length) (af:∀D (U:D<l.length) (cS:D<bJ.length),bI P m h l[D] bJ[D]):bI P m h (.agg l) (.agg bJ.toArray)
 |bW (l:List I) (bJ:List bK) (F:bJ.length=l.length) (af:∀D (U:D<l.length) (cS:D<bJ.length),bI P m h l[D] bJ[D]):bI P m h (.bW l) (.tuple bJ.toArray)
def dj(P:cp)(m:dw)(h:ad)(l:List I)(bJ:List bK):Prop:=bJ.length=l.length/\∀D (U:D<l.length) (cS:D<bJ.length),bI P m h l[D] bJ[D]
def Ni(P:cp):List (String×jC×List Int):=
 if(P.globalNamed ("internal"++String.singleton (Char.ofNat 47)++ "strconv.uint64pow10")).isSome then[("internal"++String.singleton (Char.ofNat 47)++ "strconv.uint64pow10",.u64,Lib.pow10Tab)]else[]
def Nj(P:cp):List String:=["strconv.ErrSyntax", "strconv.ErrRange"].filter λn=>(P.globalNamed n).isSome
structure wS(P:cp)(b:Nat)(w:cQ):Prop where
 W7:∀q∈Ni P,Lib.TabIs P w q.1 q.2.1 q.2.2/\∀g,P.globalNamed q.1=j g->g<b
 W8:∀n∈Nj P,(∃db p,w.var? P n=j #[.iface db p])/\∀g,P.globalNamed n=j g->g<b
theorem Nk{P:cp}{n:String}{b:Nat}{w aV:cQ}(O:∀g,P.globalNamed n=j g->g<b)(ai:b<=w.heap.size)(h:∀g,g<w.heap.size->g<b->aV.heap[g]? =w.heap[g]?):aV.var? P n=w.var? P n:=by
 unfold World.var?;rcases au:P.globalNamed n with _|g
 ·rfl
 ·have bh:=O g au;simp only[c7];rw[h g (by omega) bh]
theorem wS.fH{P:cp}{b:Nat}{w aV:cQ}(aX:wS P b w)(ai:b<=w.heap.size)(h:∀g,g<w.heap.size->g<b->aV.heap[g]? =w.heap[g]?):wS P b aV:=by
 refine⟨λq aG=>?_,λn au=>?_⟩
 ·obtain⟨F,O⟩:=aX.W7 q aG;refine⟨?_,O⟩;unfold Lib.TabIs at F ⊢;rw[Nk O ai h];exact F
 ·obtain⟨F,O⟩:=aX.W8 n au;refine⟨?_,O⟩;rw[Nk O ai h];exact F
structure bU(P:cp)(m:dw)(h:ad)(w:cQ):Prop where
 size:m.base<=w.heap.size
 lt:∀b es,h.cell b=j es->b<h.n/\m.base<=m.cb b
 live:∀b es,h.cell b=j es->∃cs,jD w (m.cb b) (m.fY b) cs/\cs.size=m.md b/\(∀r∈es,r.length=P.cellsOf (m.fY b))/\es.length*P.cellsOf (m.fY b)<=cs.size/\
  ∀i (aa:i<es.length) D (U:D<es[i].length),∃v,cs[i*P.cellsOf (m.fY b)+D]? =j v/\bI P m h es[i][D] v
 inj:∀b e5 es fL,h.cell b=j es->h.cell e5=j fL->m.cb b=m.cb e5->b=e5
 dF:∀g E v,m.dF g E=j v->w.cell? ⟨g,E,ab⟩=j v
 sep:∀b es,h.cell b=j es->∀E,m.dF (m.cb b) E=ab
 oD:∀k,k<h.ids->∃xs,w.ownsRow m.base (m.kJ k) (P.cellsOf (m.kJ k)) (.slice (j ⟨m.h1 k,0,ab⟩) (h.hw k) (m.qR k)) (h.hw k) xs
 ng:∀k,k<h.ids->∀E,h.hw k*P.cellsOf (m.kJ k)<=E->m.dF (m.h1 k) E=ab
 mf:∀k,k<h.ids->∀b es,h.cell b=j es->m.cb b≠m.h1 k
 nY:∀k cn,k<h.ids->cn<h.ids->m.h1 k=m.h1 cn->k=cn
 dk:wS P m.base w
 e4:∀g x,m.e4 g=j x->m.base<=g/\w.heap[g]? =j x/\(∀b es,h.cell b=j es->m.cb b≠g)/\(∀k,k<h.ids->m.h1 k≠g)/\∀E,m.dF g E=ab
structure Ext(m:dw)(h:ad)(aR:dw)(J:ad):Prop where
 base:aR.base=m.base
 n:h.n<=J.n
 ids:h.ids<=J.ids
 cb:∀b,b<h.n->aR.cb b=m.cb b/\aR.fY b=m.fY b/\aR.md b=m.md b
 dF:∀g E v,m.dF g E=j v->aR.dF g E=j v
 kJ:∀k,k<h.ids->aR.kJ k=m.kJ k/\h.hw k<=J.hw k/\(J.hw k=h.hw k->aR.h1 k=m.h1 k/\aR.qR k=m.qR k)
 e4:∀g x,m.e4 g=j x->aR.e4 g=j x
theorem Ext.refl(m:dw)(h:ad):Ext m h m h:=⟨rfl,bV _,bV _,λ_ _=>⟨rfl,rfl,rfl⟩,λ_ _ _ h=>h,λ_ _=>⟨rfl,bV _,λ_=>⟨rfl,rfl⟩⟩,λ_ _ h=>h⟩
theorem Ext.trans{c8 cu je:dw}{F O af:ad}(x:Ext c8 F cu O)(y:Ext cu O je af):Ext c8 F je af:=by
 refine⟨y.base.trans x.base,ef x.n y.n,ef x.ids y.ids,λb ai=>?_,λg E v h=>y.dF g E v (x.dF g E v h),λk Z=>?_,λg v h=>y.e4 g v (x.e4 g v h)⟩
 ·obtain⟨aJ,a1,bf⟩:=x.cb b ai;obtain⟨c9,dx,gH⟩:=y.cb b (eL ai x.n);exact⟨c9.trans aJ,dx.trans a1,gH.trans bf⟩
 ·obtain⟨aJ,a1,bf⟩:=x.kJ k Z;obtain⟨c9,dx,gH⟩:=y.kJ k (eL Z x.ids);refine⟨c9.trans aJ,ef a1 dx,λe=>?_⟩;obtain⟨a8,bZ⟩:=bf (by omega);obtain⟨d1,d2⟩:=gH (by omega);exact⟨d1.trans a8,d2.trans bZ⟩
section
variable{P:cp}{m aR:dw}{h J:ad}{w aV:cQ}
theorem bI.ext(x:Ext m h aR J){v:I}(r:bI P m h v u):bI P aR J v u:=by
 induction r with
 |aP v=>exact .aP v
 |bool b=>exact .bool b
 |int k n=>exact .int k n
 |str l=>exact .str l
 |gd=>exact .gd
 |ptr b i off ai=>obtain⟨aJ,a1,bf⟩:=x.cb b ai;have:=bI.ptr (P:=P) (m:=aR) (h:=J) b i off (eL ai x.n);rwa [aJ,a1]at this
 |e2 t b ai aL=>obtain⟨aJ,a1,bf⟩:=x.cb b ai;have:=bI.e2 (P:=P) (m:=aR) (h:=J) t b (eL ai x.n) (a1.trans aL);rwa [aJ]at this
 |ip e off g E ag aa R aW=>exact .ip e off g E ag (λD U=>x.dF _ _ _ (aa D U)) aW
 |aF=>exact .aF
 |bR id e es g E cap ag al aa R aj aL aW=>refine .bR id e es g E cap ag al (λi eb D U=>x.dF _ _ _ (aa i eb D U)) aW aj (λk Z=>?_);obtain⟨F,O,af,aw⟩:=aL k Z;obtain⟨t1,t2,t3⟩:=x.kJ k F;refine⟨eL F x.ids,t1.trans O,ef af t2,λdC=>?_⟩;obtain⟨a8,bZ,b'⟩:=aw (by omega);obtain⟨d1,d2⟩:=t3 (by omega);exact⟨a8.trans d1.symm,bZ,b'.trans d2.symm⟩
 |me e a cap=>exact .me e a cap
 |bd b E n e cap ai he i1 au i2=>obtain⟨aJ,a1,bf⟩:=x.cb b ai;have:=bI.bd (P:=P) (m:=aR) (h:=J) b E n e cap (eL ai x.n) (a1.trans he) (i1.trans bf.symm) au i2;rwa [aJ]at this
 |fn g l c bJ fy F O af aw vs qS=>exact .fn g l c bJ fy F O vs qS
 |mb=>exact .mb
 |hb=>exact .hb
 |iface t v bu F aW=>exact .iface t v bu aW
 |agg l bJ F af aW=>exact .agg l bJ F aW
 |bW l bJ F af aW=>exact .bW l bJ F aW
theorem bI.Hq{v:I}(r:bI P m h v u):∃bu,bI P m h bu u/\(∀t b,bu≠.e2 t b)/\(∀agg n,c0 agg n h bu=c0 agg n h v)/\∀n x,ew n h bu x=ew n h v x:=by
 by_cases R:∃t b,v= .e2 t b
 ·obtain⟨t,b,rfl⟩:=R;cases r with
  |e2 _ _ ai aL=>refine⟨.ptr b 0 0,?_,(λ_ _ e=>nomatch e),λ_ _=>rfl,λ_ _=>rfl⟩;have:=bI.ptr (P:=P) (m:=m) (h:=h) b 0 0 ai;simpa using this
 ·exact⟨v,r,λt b e=>R ⟨t,b,e⟩,λ_ _=>rfl,λ_ _=>rfl⟩
theorem bI.Hr:bI P m h (.bW []) fg:=bI.bW [] [] rfl (λD U=>by simp at U)
theorem dj.nil:dj P m h [] []:=⟨rfl,λD U=>by simp at U⟩
theorem dj.cons{a:I}{b:bK}{l:List I}{bJ:List bK}(F:bI P m h a b)(O:dj P m h l bJ):dj P m h (a::l) (b::bJ):=by
 refine⟨by simp[O.1],λD U cS=>?_⟩;cases D with
 |zero=>exact F
 |succ D=>exact O.2 D (by simpa using U) (by simpa using cS)
theorem dj.append{dh cC:List I}{bT bQ:List bK}(F:dj P m h dh bT)(O:dj P m h cC bQ):dj P m h (dh++cC) (bT++bQ):=by
 refine⟨by simp[F.1,O.1],λD U cS=>?_⟩;by_cases bh:D<dh.length
 ·rw[List.getElem_append_left bh,List.getElem_append_left (by rw[F.1];exact bh)];exact F.2 D bh _
 ·rw[List.getElem_append_right (by omega),List.getElem_append_right (by rw[F.1];omega)];have e:=F.1;simp only[e];exact O.2 _ _ _
theorem dj.map{α:Type}{f:α->I}{g:α->bK}{l:List α}(bc:∀x∈l,bI P m h (f x) (g x)):dj P m h (l.map f) (l.map g):=by refine⟨by simp,λD U cS=>?_⟩;simp only[List.getElem_map];exact bc _ (h2 _)
theorem dj.get?{l:List I}{bJ:List bK}(r:dj P m h l bJ){D:Nat}{v:I}(R:l[D]? =j v):∃u,bJ[D]? =j u/\bI P m h v u:=by
 obtain⟨U,rfl⟩:=gg.1 R;have cS:D<bJ.length:=by rw[r.1];exact U
 exact⟨bJ[D],fz cS,r.2 D U cS⟩
theorem bU.below(hw:bU P m h w){b:Nat}{es:List (List I)}(ai:h.cell b=j es):m.cb b<w.heap.size:=by obtain⟨cs,aj,_⟩:=hw.live b es ai;exact aj.lt
theorem bU.pV(hw:bU P m h w){g E:Nat}{v:bK}(aa:m.dF g E=j v):g<w.heap.size:=by have:=hw.dF g E v aa;exact Ng (w:=w) (p:=⟨g,E,ab⟩) (by rw[this];simp)
theorem bU.pW(hw:bU P m h w){k:Nat}(Z:k<h.ids):m.base<=m.h1 k/\m.h1 k<w.heap.size:=by obtain⟨xs,an⟩:=hw.oD k Z;exact an.lt _ rfl
theorem bU.only{S:Nat->Prop}(hw:bU P m h w)(am:g4 S w aV)(F:∀b es,h.cell b=j es->¬S (m.cb b))(O:∀g E v,m.dF g E=j v->¬S g)(af:∀k,k<h.ids->¬S (m.h1 k))(aw:∀g,g<m.base->¬S g)(bg:∀g x,m.e4 g=j x->¬S g):bU P m h aV:=by
 refine⟨ef hw.size am.size,hw.lt,λb es ai=>?_,hw.inj,λg E v aa=>?_,hw.sep,λk Z=>?_,hw.ng,hw.mf,hw.nY,hw.dk.fH hw.size λg aX ai=>am.block g aX (aw g ai),λg x an=>?_⟩
 ·obtain⟨cs,aj,ah⟩:=hw.live b es ai;exact⟨cs,aj.only am (F b es ai),ah⟩
 ·rw[World.cell?_of_block (w:=w) (am.block _ (hw.pV aa) (O g E v aa))];exact hw.dF g E v aa
 ·obtain⟨xs,an⟩:=hw.oD k Z;exact⟨xs,Nh an am (λg aX=>by simp at aX;subst aX;exact af k Z)⟩
 ·obtain⟨aJ,a1,bf⟩:=hw.e4 g x an;exact⟨aJ,(am.block g (Array.getElem?_eq_some_iff.1 a1).1 (bg g x an)).trans a1,bf⟩
theorem bU.sW(hw:bU P m h w){g:Nat}{x:Obj}(an:m.e4 g=j x):g<w.heap.size:=(Array.getElem?_eq_some_iff.1 (hw.e4 g x an).2.1).1
theorem bU.new(hw:bU P m h w)(am:lT w aV):bU P m h aV:=hw.only am (λ_ _ _=>id) (λ_ _ _ _=>id) (λ_ _=>id) (λ_ _=>id) (λ_ _ _=>id)
theorem bU.drew(hw:bU P m h w):bU P m h w.drew:=hw.new (g4.refl _ _).drew
theorem bU.push(hw:bU P m h w)(aV:cQ)(e:aT)(es:List (List I))(cs:Array bK)(au:lT w aV)(qT:jD aV w.heap.size e cs)(av:es.length*P.cellsOf e<=cs.size)(al:∀r∈es,r.length=P.cellsOf e)(R:∀i (aa:i<es.length) D (U:D<es[i].length),∃v,cs[i*P.cellsOf e+D]? =j v/\bI P m h es[i][D] v):∃aR,Ext m h aR (h.push es)/\bU P aR (h.push es) aV/\aR.cb h.n=w.heap.size/\aR.fY h.n=e/\aR.md h.n=cs.size:=by
 refine⟨{m with cb:=λb=>if b=h.n then w.heap.size else m.cb b,fY:=λb=>if b=h.n then e else m.fY b,md:=λb=>if b=h.n then cs.size else m.md b},?_,?_,by simp,by simp,by simp⟩
 ·exact⟨rfl,by simp[ad.push],by simp[ad.push],λb ai=>by simp[show b≠h.n by omega],λ_ _ _ h=>h,λk Z=>⟨rfl,bV _,λ_=>⟨rfl,rfl⟩⟩,λ_ _ h=>h⟩
 ·have an:Ext m h {m with cb:=λb=>if b=h.n then w.heap.size else m.cb b,fY:=λb=>if b=h.n then e else m.fY b,md:=λb=>if b=h.n then cs.size else m.md b} (h.push es):=⟨rfl,by simp[ad.push],by simp[ad.push],λb ai=>by simp[show b≠h.n by omega],λ_ _ _ h=>h,λk Z=>⟨rfl,bV _,λ_=>⟨rfl,rfl⟩⟩,λ_ _ h=>h⟩;have fS:=hw.new au;have eX:∀b x,(h.push es).cell b=j x->b≠h.n->h.cell b=j x:=by intro b x ai cO;simpa[ad.push,cO]using ai
  have new:∀b x,(h.push es).cell b=j x->b=h.n->x=es:=by intro b x ai he;subst he;simp[ad.push]at ai;exact ai.symm
  refine⟨fS.size,λb x ai=>?_,λb x ai=>?_,λb e5 x iI ai j' he=>?_,fS.dF,λb x ai E=>?_,fS.oD,fS.ng,λk Z b x ai=>?_,fS.nY,fS.dk,λg x an=>?_⟩
  ·by_cases hL:b=h.n
   ·subst hL;exact⟨by simp[ad.push],by simpa using hw.size⟩
   ·have:=hw.lt b x (eX b x ai hL);exact⟨by simp[ad.push];omega,by simpa[hL]using this.2⟩
  ·by_cases hL:b=h.n
   ·subst hL;have:=new _ _ ai rfl;subst this;refine⟨cs,by simpa using qT,by simp,by simpa using al,by simpa using av,λi aa D U=>?_⟩;obtain⟨v,F,O⟩:=R i aa D U;exact⟨v,by simpa using F,O.ext an⟩
   ·obtain⟨fM,F,O,af,aw,bg⟩:=fS.live b x (eX b x ai hL);refine⟨fM,by simpa[hL]using F,by simpa[hL]using O,by simpa[hL]using af,by simpa[hL]using aw,λi aa D U=>?_⟩;obtain⟨v,cj,cT⟩:=bg i aa D U;exact⟨v,by simpa[hL]using cj,cT.ext an⟩
  ·by_cases F:b=h.n<;>by_cases O:e5=h.n
   ·omega
   ·have:=hw.below (eX _ _ j' O);simp[F,O]at he;omega
   ·have:=hw.below (eX _ _ ai F);simp[F,O]at he;omega
   ·simp[F,O]at he;exact hw.inj b e5 x iI (eX _ _ ai F) (eX _ _ j' O) he
  ·by_cases F:b=h.n
   ·simp only[F,if_true];rcases aa:m.dF w.heap.size E with _|v
    ·rfl
    ·have:=hw.pV aa;omega
   ·simp only[F,if_false];exact hw.sep b x (eX _ _ ai F) E
  ·by_cases F:b=h.n
   ·have:=hw.pW Z;simp[F];omega
   ·simp only[F,if_false];exact hw.mf k Z b x (eX _ _ ai F)
  ·obtain⟨aJ,a1,bf,cv,ez⟩:=fS.e4 g x an;refine⟨aJ,a1,λb y ai=>?_,cv,ez⟩;by_cases F:b=h.n
   ·have:=hw.sW an;simp only[F,if_true];omega
   ·simp only[F,if_false];exact bf b y (eX _ _ ai F)
theorem bU.Db(hw:bU P m h w){b:Nat}{es fL:List (List I)}(ai:h.cell b=j es)(am:g4 (λk=>k=m.cb b) w aV)(fM:Array bK)(aj:jD aV (m.cb b) (m.fY b) fM)(av:fM.size=m.md b)(al:∀r∈fL,r.length=P.cellsOf (m.fY b))(hle:fL.length*P.cellsOf (m.fY b)<=fM.size)(R:∀i (aa:i<fL.length) D (U:D<fL[i].length),∃v,fM[i*P.cellsOf (m.fY b)+D]? =j v/\bI P m h fL[i][D] v):Ext m h m (h.set b (j fL))/\bU P m (h.set b (j fL)) aV:=by
 have an:Ext m h m (h.set b (j fL)):=⟨rfl,bV _,bV _,λ_ _=>⟨rfl,rfl,rfl⟩,λ_ _ _ h=>h,λ_ _=>⟨rfl,bV _,λ_=>⟨rfl,rfl⟩⟩,λ_ _ h=>h⟩;refine⟨an,?_⟩;have some_:∀e5 x,(h.set b (j fL)).cell e5=j x->∃y,h.cell e5=j y:=by
  intro e5 x j';by_cases e:e5=b
  ·subst e;exact⟨_,ai⟩
  ·exact⟨x,by simpa[ad.set,e]using j'⟩
 refine⟨ef hw.size am.size,λe5 x j'=>?_,λe5 x j'=>?_,λc9 dx b2 ds F O he=>?_,λg E v aa=>?_,λe5 x j' E=>?_,λk Z=>?_,hw.ng,λk Z e5 x j'=>?_,hw.nY,hw.dk.fH hw.size λg aX bh=>am.block g aX (λe=>by have:=(hw.lt b es ai).2;omega),λg x U=>?_⟩
 ·obtain⟨y,bF⟩:=some_ _ _ j';exact hw.lt _ _ bF
 ·by_cases e:e5=b
  ·subst e;have:x=fL:=by simpa[ad.set,eq_comm]using j'
   subst this;refine⟨fM,aj,av,al,hle,λi aa D U=>?_⟩;obtain⟨v,F,O⟩:=R i aa D U;exact⟨v,F,O.ext an⟩
  ·have mg:h.cell e5=j x:=by simpa[ad.set,e]using j'
   obtain⟨bZ,F,O,af,aw,bg⟩:=hw.live e5 x mg;refine⟨bZ,F.only am (λdC=>e (hw.inj _ _ _ _ mg ai dC)),O,af,aw,λi aa D U=>?_⟩;obtain⟨v,cj,cT⟩:=bg i aa D U;exact⟨v,cj,cT.ext an⟩
 ·obtain⟨fT,Ag⟩:=some_ _ _ F;obtain⟨jf,Ah⟩:=some_ _ _ O;exact hw.inj _ _ _ _ Ag Ah he
 ·have cO:g≠m.cb b:=λe=>by subst e;have:=hw.sep b es ai E;rw[this]at aa;cases aa
  rw[World.cell?_of_block (w:=w) (am.block _ (hw.pV aa) cO)];exact hw.dF g E v aa
 ·obtain⟨y,bF⟩:=some_ _ _ j';exact hw.sep _ _ bF E
 ·obtain⟨xs,sX⟩:=hw.oD k Z;exact⟨xs,Nh sX am (λg aX e=>by simp at aX;exact hw.mf k Z b es ai (by rw[aX];exact e.symm))⟩
 ·obtain⟨y,bF⟩:=some_ _ _ j';exact hw.mf k Z _ _ bF
 ·obtain⟨aJ,a1,bf,cv,ez⟩:=hw.e4 g x U;refine⟨aJ,(am.block g (hw.sW U) λe=>bf b es ai e.symm).trans a1,λe5 y j'=>?_,cv,ez⟩;obtain⟨z,aN⟩:=some_ _ _ j';exact bf _ _ aN
end
open Go Go.RowKit
structure nZ(P:cp):Prop where
 zero:∀t i v,t<P.types.size->P.info? t=j i->i.zero=j v->v.cells.size=i.size
 small:∀t i,t<P.types.size->P.info? t=j i->i.bytes<=100000
 pos:∀t e,t<P.types.size->P.underlying t=j (.slice e)->0<P.cellsOf e
def dp(P:cp)(m:dw)(h:ad)(t:List I)(a:Array bK):Prop:=a.size=t.length/\∀i (aa:i<t.length),bI P m h t[i] (a.getD i fg)
def dq(P:cp)(m:dw)(h:ad)(a:Act)(w:cQ)(E:a0)(v:I)(J:ad):Prop:=∃aR aV u,((eG a.eval E).run P w= .ok (.value u) aV\/((eG a.eval E).run P w= .ok .skip aV/\u=fg))/\Ext m h aR J/\bU P aR J aV/\bI P aR J v u/\Below m.base w aV
section
variable{P:cp}{m aR:dw}{h J:ad}{w aV:cQ}{t:List I}{a:Act}{E:a0}
theorem dp.ext(x:Ext m h aR J){rS:Array bK}(r:dp P m h t rS):dp P aR J t rS:=⟨r.1,λi aa=>(r.2 i aa).ext x⟩
theorem dp.put(r:dp P m h t a.tmps){v:I}{u:bK}(R:bI P m h v u)(d:Option Tmp):dp P m h (ev t d v) (a.put d u).tmps:=by
 cases d with
 |none=>exact r
 |some d=>
   refine⟨by simp[ev,Act.put,r.1],λi aa=>?_⟩;have eb:i<t.length:=by simpa[ev]using aa
   have ao:(ev t (j d) v)[i]=if d=i then v else t[i]:=by simp[ev,List.getElem_set]
   have aq:(a.put (j d) u).tmps.getD i fg=if d=i then u else a.tmps.getD i fg:=by
    have av:i<a.tmps.size:=by rw[r.1];exact eb
    simp[Act.put,Array.getD,av,Array.getElem_setIfInBounds]
   rw[ao,aq];by_cases e:d=i
   ·rw[if_pos e,if_pos e];exact R
   ·rw[if_neg e,if_neg e];exact r.2 i eb
theorem dp.get(r:dp P m h t a.tmps)(i:Nat):bI P m h (t.getD i .aP) (a.tmps.getD i fg):=by
 by_cases aa:i<t.length
 ·have:=r.2 i aa;simpa[cK,aa]using this
 ·rw[cK,lU (by omega)];exact .aP _
theorem Dc(v:bK):bI P m h (vo v) v:=by
 unfold vo;split
 ·exact .bool _
 ·exact .int _ _
 ·rename_i s;have:=bI.str (P:=P) (m:=m) (h:=h) s.data.toList;simpa using this
 ·exact .gd
 ·exact .aF
 ·exact .mb
 ·exact .hb
 ·exact .aP _
theorem W9(v:bK):bI P m h (wK v) v:=by
 unfold wK;split
 ·rename_i cs;have:=bI.agg (P:=P) (m:=m) (h:=h) (cs.toList.map vo) cs.toList (by simp) (λD U cS=>by simpa using Dc _);simpa using this
 ·exact Dc v
theorem gr(r:dp P m h t a.tmps)(x:fi):bI P m h (be t x) (a.eval x):=by
 cases x with
 |tmp i=>exact r.get i
 |const v=>exact W9 v
 |global g=>exact .aP _
 |func f=>exact .fn f [] [] [] [] rfl rfl (λD U=>by simp at U) (λD U=>by simp at U)
theorem bI.one{v:I}{u:bK}(r:bI P m h v u)(F:v.one=Q):u.oneCell'=Q:=by cases r<;>simp_all [I.one,Value.oneCell']
theorem bI.cells{v:I}{u:bK}(r:bI P m h v u)(F:v.cells.all I.one=Q):dj P m h v.cells u.cells.toList/\∀c∈u.cells.toList,c.oneCell'=Q:=by
 have key:v.one=Q->u.cells= #[u]->v.cells=[v]->dj P m h v.cells u.cells.toList/\∀c∈u.cells.toList,c.oneCell'=Q:=by intro R bH aj;rw[bH,aj];refine⟨dj.cons r dj.nil,λc aj=>?_⟩;simp at aj;subst aj;exact r.one R
 cases r with
 |aP v=>simp[I.cells,I.one]at F
 |bW l bJ O af=>simp[I.cells,I.one]at F
 |agg l bJ O af=>
   refine⟨⟨by simpa[I.cells,Value.cells]using O,λD U cS=>af D U (by simpa[Value.cells]using cS)⟩,λc aj=>?_⟩;simp[Value.cells]at aj;obtain⟨D,U,rfl⟩:=List.getElem_of_mem aj;have dB:D<l.length:=by omega
   simp only[I.cells,iR]at F;exact(af D dB U).one (F _ (h2 dB))
 |_=>exact key rfl rfl rfl
theorem dq.pure(hw:bU P m h w){v:I}(ah:(eG a.eval E).run P w= .ok (.value u) w)(R:bI P m h v u):dq P m h a w E v h:=⟨m,w,u,.inl ah,Ext.refl _ _,hw,R,k0 _ _⟩
theorem vt(gI:nZ P){e:aT}{z:List I}(aN:jv P e=j z):∃i v,P.info? e=j i/\i.zero=j v/\z.length=P.cellsOf e/\v.cells.size=P.cellsOf e/\dj P m h z v.cells.toList/\(zeroValue e).run P w= .ok v w:=by
 unfold jv at aN;split at aN
 case isFalse=>cases aN
 rename_i bh;rcases aa:P.info? e with _|i
 ·simp[aa]at aN
 ·rcases R:i.zero with _|v
  ·simp[aa,R]at aN
  ·simp only[aa,R,c7,hj,g5]at aN;have av:=gI.zero e i v bh aa R;have aj:P.cellsOf e=i.size:=by simp[Program.cellsOf,aa]
   have ah:dj P m h (wK v).cells v.cells.toList:=by
    unfold wK;split
    ·rename_i cs;exact⟨by simp[I.cells,Value.cells],λD U cS=>by simpa[I.cells,Value.cells]using Dc _⟩
    ·rename_i cO;have k1:=Dc (P:=P) (m:=m) (h:=h) v;have ao:(vo v).cells=[vo v]:=by unfold vo;split<;>rfl
     have aq:v.cells= #[v]:=by
      unfold Value.cells;split
      ·rename_i cs;exact absurd rfl (cO cs)
      ·rfl
     rw[ao,aq];exact dj.cons k1 dj.nil
   rw[aN]at ah;refine⟨i,v,rfl,R,?_,by rw[av,aj],ah,by simp[zeroValue,typeInfo,aa,R]⟩;have:=ah.1;rw[Array.length_toList,av]at this;rw[aj];exact this.symm
theorem Nl(hw:bU P m h w)(e:aT){z:List I}{u:Array bK}(aN:dj P m h z u.toList)(av:z.length=P.cellsOf e):∃aR,Ext m h aR (h.push [z])/\bU P aR (h.push [z]) (w.alloc (.cells u e))/\bI P aR (h.push [z]) (.ptr h.n 0 0) (.pointer (j ⟨w.heap.size,0,ab⟩)):=by
 have bH:u.size=z.length:=by simpa using aN.1
 obtain⟨aR,F,O,af,aw,bg⟩:=hw.push (w.alloc (.cells u e)) e [z] u ((g4.refl _ w).alloc _) (jD.new w _ _) (by simp;omega) (by simp[av]) (by
  intro i aa D U;have gh:i=0:=by simpa using aa
  subst gh;have cS:D<z.length:=by simpa using U
  refine⟨u[D]'(by omega),by simp,?_⟩;have:=aN.2 D cS (by simp;omega);simpa using this)
 refine⟨aR,F,O,?_⟩;have:=bI.ptr (P:=P) (m:=aR) (h:=h.push [z]) h.n 0 0 (by simp[ad.push]);rw[af]at this;simpa using this
theorem W'(gI:nZ P)(hw:bU P m h w)(e:aT)(am:E.op= .alloc e){z:List I}(aN:jv P e=j z):dq P m h a w E (.ptr h.n 0 0) (h.push [z]):=by obtain⟨i,v,aa,R,al,av,ah,kt⟩:=vt (m:=m) (h:=h) (w:=w) gI aN;obtain⟨aR,F,O,af⟩:=Nl hw e ah al;refine⟨aR,_,_,.inl ?_,F,O,af,(k0 _ _).alloc hw.size _⟩;simp[eG,am,Instr.alloc,kt,newVar,newRow]
theorem Xa(gI:nZ P)(hw:bU P m h w)(e:aT)(am:E.op= .alloc e){z:List I}(aN:jv P e=j z):dq P m h a w E (.e2 e h.n) (h.push [z]):=by
 obtain⟨i,v,aa,R,al,av,ah,kt⟩:=vt (m:=m) (h:=h) (w:=w) gI aN;have bH:v.cells.size=z.length:=by simpa using ah.1
 obtain⟨aR,F,O,af,aw,bg⟩:=hw.push (w.alloc (.cells v.cells e)) e [z] v.cells ((g4.refl _ w).alloc _) (jD.new w _ _) (by simp;omega) (by simp[al]) (by
  intro i aa D U;have gh:i=0:=by simpa using aa
  subst gh;have cS:D<z.length:=by simpa using U
  refine⟨v.cells[D]'(by omega),by simp,?_⟩;have:=ah.2 D cS (by simp;omega);simpa using this)
 have aB:=bI.e2 (P:=P) (m:=aR) (h:=h.push [z]) e h.n (by simp[ad.push]) aw;rw[af]at aB;refine⟨aR,_,_,.inl ?_,F,O,aB,(k0 _ _).alloc hw.size _⟩;simp[eG,am,Instr.alloc,kt,newVar,newRow]
theorem Xb(hw:bU P m h w)(aL:dp P m h t a.tmps)(e:aT)(x:fi)(am:E.op= .box e x)(F:(be t x).cells.all I.one=Q)(O:(be t x).cells.length=cB P e):dq P m h a w E (.ptr h.n 0 0) (h.push [(be t x).cells]):=by obtain⟨af,aw⟩:=(gr aL x).cells F;obtain⟨aR,bg,cj,cT⟩:=Nl hw e af O;refine⟨aR,_,_,.inl ?_,bg,cj,cT,(k0 _ _).alloc hw.size _⟩;simp[eG,am,Instr.box,newVar,newRow]
theorem Xc(hw:bU P m h w)(aL:dp P m h t a.tmps)(e:aT)(x:fi)(am:E.op= .box e x)(F:(be t x).cells.all I.one=Q)(O:(be t x).cells.length=cB P e):dq P m h a w E (.e2 e h.n) (h.push [(be t x).cells]):=by
 obtain⟨af,aw⟩:=(gr aL x).cells F;have bH:(a.eval x).cells.size=(be t x).cells.length:=by simpa using af.1
 have O:(be t x).cells.length=P.cellsOf e:=O;obtain⟨aR,dc,dr,g6,fA,g7⟩:=hw.push (w.alloc (.cells (a.eval x).cells e)) e [(be t x).cells] (a.eval x).cells ((g4.refl _ w).alloc _) (jD.new w _ _) (by simp;omega) (by simp[O]) (by
  intro i aa D U;have gh:i=0:=by simpa using aa
  subst gh;have cS:D<(be t x).cells.length:=by simpa using U
  refine⟨(a.eval x).cells[D]'(by omega),by simp,?_⟩;have:=af.2 D cS (by simp;omega);simpa using this)
 have aB:=bI.e2 (P:=P) (m:=aR) (h:=h.push [(be t x).cells]) e h.n (by simp[ad.push]) fA;rw[g6]at aB;refine⟨aR,_,_,.inl ?_,dc,dr,aB,(k0 _ _).alloc hw.size _⟩;simp[eG,am,Instr.box,newVar,newRow]
theorem Hs(ty:aT)(a6:P.underlying ty=j d):(isAgg ty).run P w= .ok (jc P ty) w:=by unfold isAgg jc;simp only[hi,iz a6,hc,a6];cases d<;>simp
theorem Nm(hw:bU P m h w){b i:Nat}{e:List I}(ah:h.row b i=j e):∃ag:Nat->bK,∀D (U:D<e.length),w.cell? ⟨m.cb b,i*P.cellsOf (m.fY b)+D,ab⟩=j (ag D)/\bI P m h e[D] (ag D):=by
 unfold ad.row at ah;rcases aj:h.cell b with _|es
 ·simp[aj]at ah
 ·simp only[aj,c7]at ah;obtain⟨aa,rfl⟩:=gg.1 ah;obtain⟨cs,F,O,af,aw,bg⟩:=hw.live b es aj;refine⟨λD=>(cs[i*P.cellsOf (m.fY b)+D]?).getD fg,λD U=>?_⟩;obtain⟨v,cj,cT⟩:=bg i aa D U;exact⟨by rw[F.cell];simp[cj],by simpa[cj]using cT⟩
theorem Dd(ty:aT)(a6:P.underlying ty=j d)(aa:P.info? ty≠ab)(g E:Nat)(off:Nat)(e:List I)(ag:Nat->bK)(cR:∀D (U:D<e.length),w.cell? ⟨g,E+D,ab⟩=j (ag D)/\bI P m h e[D] (ag D)){v:I}(R:gG (jc P ty) (cB P ty) e off=j v):∃u,(loadVar ty ⟨g,E+off,ab⟩).run P w= .ok u w/\bI P m h v u:=by
 unfold gG at R;unfold loadVar;simp only[hi,Hs ty a6,hc];cases rT:jc P ty
 ·simp only[rT,mI,if_false]at R ⊢;obtain⟨U,rfl⟩:=gg.1 R;obtain⟨F,O⟩:=cR off U;exact⟨ag off,by simp[F],O⟩
 ·simp only[rT,if_true]at R ⊢;split at R
  ·rename_i hle;injection R with R;subst R;obtain⟨i,aa⟩:=Option.ne_none_iff_exists'.1 aa;have ey:i.size=cB P ty:=by simp[cB,Program.cellsOf,aa]
   have al:=run_loadCells (P:=P) w ⟨g,E+off,ab⟩ (cB P ty) (λD=>ag (off+D)) (λD U=>by rw[oC];have:=(cR (off+D) (by omega)).1;rwa [oE]);refine⟨.agg ((iQ (cB P ty)).map λD=>ag (off+D)).toArray,?_,?_⟩
   ·simp[sizeOf,typeInfo,aa,ey,al]
   ·refine .agg _ _ (by simp;omega) (λD U cS=>?_);simp only[List.getElem_map,List.getElem_range];have pX:D<cB P ty:=by simpa using cS
    have:=(cR (off+D) (by omega)).2;simpa[List.getElem_take,List.getElem_drop]using this
  ·cases R
theorem Xd(hw:bU P m h w)(aL:dp P m h t a.tmps)(ty:aT)(x:fi)(am:E.op= .load ty x)(a6:P.underlying ty=j d)(aa:P.info? ty≠ab){v:I}(R:c0 (jc P ty) (cB P ty) h (be t x)=j v):dq P m h a w E v h:=by
 have an:=gr aL x;have key:∃u,(Instr.loadAt ty (a.eval x)).run P w= .ok u w/\bI P m h v u:=by
  revert an R;generalize a.eval x=De;generalize be t x=ex;intro R an;obtain⟨Nn,sY,cO,al,_⟩:=an.Hq;rw[<-al]at R;cases sY with
  |e2 t b _ _=>exact absurd rfl (cO t b)
  |ptr b i off ai=>
    simp only[c0]at R;rcases ah:h.row b i with _|e
    ·simp[ah]at R
    ·simp only[ah,c7]at R;obtain⟨ag,cR⟩:=Nm hw ah;obtain⟨u,F,O⟩:=Dd (w:=w) ty a6 aa (m.cb b) (i*P.cellsOf (m.fY b)) off e ag cR R;exact⟨u,by simp[Instr.loadAt,Instr.sureAddr,F],O⟩
  |ip e off g eO ag eb lr=>simp only[c0]at R;obtain⟨u,F,O⟩:=Dd (w:=w) (h:=h) (m:=m) ty a6 aa g eO off e ag (λD U=>⟨hw.dF _ _ _ (eb D U),lr D U⟩) R;exact⟨u,by simp[Instr.loadAt,Instr.sureAddr,F],O⟩
  |_=>simp[c0]at R
 obtain⟨u,F,O⟩:=key;exact dq.pure hw (by simp[eG,am,F]) O
end
open Go Go.RowKit
theorem Ht{α:Type}(l cs:List α)(E:Nat)(h:E+cs.length<=l.length)(D:Nat):(l.take E++cs++l.drop (E+cs.length))[D]? =if E<=D/\D<E+cs.length then cs[D - E]? else l[D]? :=by
 by_cases F:D<E
 ·rw[if_neg (by omega),kv,mJ (by simp;omega)];simp[F]
 ·by_cases O:D<E+cs.length
  ·rw[if_pos (by omega),kv,pY (by simp;omega),mJ (by simp;omega)];congr 1;simp;omega
  ·rw[if_neg (by omega),pY (by simp;omega)];rw[List.getElem?_drop];congr 1;simp;omega
theorem nh{i n s:Nat}(h:i<n):i*s+s<=n*s:=by have:(i+1)*s<=n*s:=Nat.mul_le_mul_right s h;rw[Nat.add_mul]at this;omega
section
variable{P:cp}{m aR:dw}{h J:ad}{w aV:cQ}{t:List I}{a:Act}{E:a0}
theorem Xe(hw:bU P m h w)(aL:dp P m h t a.tmps)(ty:aT)(x y:fi)(am:E.op= .store ty x y)(aa:P.info? ty≠ab)(R:ew (cB P ty) h (be t x) (be t y)=j J):dq P m h a w E .aP J:=by
 have an:=gr aL x;have bF:=gr aL y;obtain⟨jE,aa⟩:=Option.ne_none_iff_exists'.1 aa;have ey:jE.size=cB P ty:=by simp[cB,Program.cellsOf,aa]
 have key:∃aV,(Instr.storeAt ty (a.eval x) (a.eval y)).run P w= .ok () aV/\Ext m h m J/\bU P m J aV/\Below m.base w aV:=by
  revert an R;generalize a.eval x=De;generalize be t x=ex;intro R an;obtain⟨Nn,sY,cO,_,al⟩:=an.Hq;rw[<-al]at R;cases sY with
  |e2 t b _ _=>exact absurd rfl (cO t b)
  |ptr b i off ai=>
    simp only[ew]at R;rcases aj:h.cell b with _|es
    ·simp[aj]at R
    ·rcases ah:es[i]? with _|e
     ·simp[aj,ah]at R
     ·simp only[aj,ah,c7]at R;split at R
      ·rename_i jg;obtain⟨F,O,af⟩:=jg;injection R with R;subst R;obtain⟨ni,jx⟩:=bF.cells F;obtain⟨cs,oF,mg,rU,Xf,Hu⟩:=hw.live b es aj;obtain⟨Df,Hv⟩:=gg.1 ah;have i3:e.length=P.cellsOf (m.fY b):=by rw[<-Hv];exact rU _ (h2 Df)
       generalize cl:P.cellsOf (m.fY b)=S at*;have yy:(a.eval y).cells.toList.length=cB P ty:=by rw[ni.1,O]
       have yz:(a.eval y).cells.size=cB P ty:=by simpa using yy
       have amJ:=nh (s:=S) Df;have kt:=run_storeCells_at (P:=P) (m.cb b) (i*S+off) (m.fY b) (a.eval y).cells.toList 0 cs w oF (by rw[yy];omega) jx;have h3:g4 (λk=>k=m.cb b) w (w.setRow (m.cb b) (cs.toList.take (i*S+off+0)++(a.eval y).cells.toList++cs.toList.drop (i*S+off+0+(a.eval y).cells.toList.length)).toArray):=⟨rfl,rfl,rfl,by simp[World.setRow],λk _ Z=>setRow_other w _ k _ Z⟩;have hlen:((cs.toList.take (i*S+off+0)++(a.eval y).cells.toList++cs.toList.drop (i*S+off+0+(a.eval y).cells.toList.length)).toArray).size=cs.size:=by simp only[List.size_toArray,eP,List.length_take,List.length_drop,Array.length_toList,yz];omega
       have Xg:=setRow_heap w _ cs (cs.toList.take (i*S+off+0)++(a.eval y).cells.toList++cs.toList.drop (i*S+off+0+(a.eval y).cells.toList.length)).toArray _ _ oF;have Xh:∀k,k<m.base->(w.setRow (m.cb b) (cs.toList.take (i*S+off+0)++(a.eval y).cells.toList++cs.toList.drop (i*S+off+0+(a.eval y).cells.toList.length)).toArray).heap[k]? =w.heap[k]? :=λk Z=>setRow_other w _ k _ (λe=>by have:=(hw.lt b es aj).2;omega);generalize w.setRow (m.cb b) (cs.toList.take (i*S+off+0)++(a.eval y).cells.toList++cs.toList.drop (i*S+off+0+(a.eval y).cells.toList.length)).toArray=dm at*;refine⟨dm,by simp[Instr.storeAt,Instr.sureAddr,storeVar,sizeOf,typeInfo,aa,ey,yz,kt],?_⟩;obtain⟨Ai,dl⟩:=hw.Db aj (fL:=es.set i (dt e off (be t y).cells)) h3 _ Xg (by rw[hlen,mg]) (by
        intro r fZ;rw[cl];rcases List.mem_or_eq_of_mem_set fZ with aG|aG
        ·exact rU r aG
        ·rw[aG,dt];simp only[eP,List.length_take,List.length_drop];omega) (by rw[hlen,cl,kK];exact Xf) (by
        intro h' eb D U;rw[cl];have g8:h'<es.length:=by simpa using eb
        simp only[List.getElem?_toArray];rw[Ht _ _ _ (by rw[yy];simp;omega)];by_cases ao:h'=i
        ·subst ao;have ka:(es.set h' (dt e off (be t y).cells))[h']=dt e off (be t y).cells:=by simp
         have cS:D<(dt e off (be t y).cells).length:=by rw[ka]at U;exact U
         have aX:(dt e off (be t y).cells)[D]? =j (dt e off (be t y).cells)[D]:=fz cS;have mK:(e.take off++(be t y).cells++e.drop (off+(be t y).cells.length))[D]? =j (dt e off (be t y).cells)[D]:=aX;rw[Ht _ _ _ (by omega)]at mK;have No:∀v,bI P m h (dt e off (be t y).cells)[D] v->bI P m h (es.set h' (dt e off (be t y).cells))[h'][D] v:=by intro v R;simpa only[ka]using R
         by_cases aq:off<=D/\D<off+(be t y).cells.length
         ·rw[if_pos aq]at mK;rw[if_pos (by rw[yy];omega)];obtain⟨u,k2,jV⟩:=ni.get? mK;refine⟨u,?_,No u jV⟩;rw[<-k2];congr 1;omega
         ·rw[if_neg aq]at mK;rw[if_neg (by rw[yy];omega)];obtain⟨Xi,rQ⟩:=gg.1 mK;obtain⟨v,pa,hd⟩:=Hu h' g8 D (by rw[Hv];exact Xi);refine⟨v,by simpa using pa,No v ?_⟩;rw[<-rQ];simpa only[Hv]using hd
        ·have ka:(es.set i (dt e off (be t y).cells))[h']=es[h']:=by simp[kw ao]
         have cS:D<es[h'].length:=by rw[ka]at U;exact U
         have amK:D<S:=by rw[rU _ (h2 g8)]at cS;exact cS
         rw[if_neg (by
          rw[yy];rcases Nat.lt_or_gt_of_ne ao with aG|aG
          ·have:=nh (s:=S) aG;omega
          ·have:=nh (s:=S) aG;omega)]
         obtain⟨v,pa,hd⟩:=Hu h' g8 D cS;exact⟨v,by simpa using pa,by simpa only[ka]using hd⟩)
       exact⟨Ai,dl,⟨h3.os,h3.tape,h3.output,h3.size,Xh⟩⟩
      ·cases R
  |_=>simp[ew]at R
 obtain⟨aV,F,O,af,aw⟩:=key;exact⟨m,aV,fg,.inr ⟨by simp[eG,am,F],rfl⟩,O,af,.aP _,aw⟩
end
open Go Go.RowKit
section
variable{P:cp}{m aR:dw}{h J:ad}{w aV:cQ}{t:List I}{a:Act}{E:a0}
theorem Np(hw:bU P m h w)(aL:dp P m h t a.tmps)(x:fi)(am:E.op= .move x\/E.op= .assign x):dq P m h a w E (be t x) h:=by refine dq.pure hw (u:=a.eval x) ?_ (gr aL x);rcases am with am|am<;>simp[eG,am]
theorem Xj(hw:bU P m h w)(aL:dp P m h t a.tmps)(c x y:fi)(am:E.op= .pick c x y){b:Bool}(ai:be t c= .bool b):dq P m h a w E (if b then be t x else be t y) h:=by
 have aj:=gr aL c;rw[ai]at aj;obtain⟨u,bH⟩:∃u,a.eval c=u:=⟨_,rfl⟩;rw[bH]at aj;cases aj;cases b
 ·exact dq.pure hw (u:=a.eval y) (by simp[eG,am,bH,asBool]) (by simpa using gr aL y)
 ·exact dq.pure hw (u:=a.eval x) (by simp[eG,am,bH,asBool]) (by simpa using gr aL x)
theorem Xk(hw:bU P m h w)(aL:dp P m h t a.tmps)(x:fi)(am:E.op= .nilCheck x){v:I}(R:be t x=v)(Z:(match v with|.ptr .. |.e2 .. |.ip .. |.fn .. |.iface .. =>Q|_=>T)=Q):dq P m h a w E v h:=by have aj:=gr aL x;rw[R]at aj;obtain⟨u,bH⟩:∃u,a.eval x=u:=⟨_,rfl⟩;rw[bH]at aj;refine dq.pure hw (u:=u) ?_ aj;cases aj<;>simp at Z<;>simp[eG,am,bH]
theorem Xl(hw:bU P m h w)(aL:dp P m h t a.tmps)(op:UnOp)(ty:aT)(x:fi)(am:E.op= .unOp op ty x){v:I}(R:wM op (be t x)=j v):dq P m h a w E v h:=by
 have aj:=gr aL x;revert R aj;obtain⟨u,bH⟩:∃u,a.eval x=u:=⟨_,rfl⟩;rw[bH];generalize be t x=ex;intro R aj;cases op<;>cases aj<;>simp[wM]at R
 ·subst R;exact dq.pure hw (u:=.int _ _) (by simp[eG,am,bH,Op.unary,Op.intArith]) (.int _ _)
 ·subst R;exact dq.pure hw (u:=.bool _) (by simp[eG,am,bH,Op.unary]) (.bool _)
theorem Xm(hw:bU P m h w)(aL:dp P m h t a.tmps)(src dst:aT)(x:fi)(am:E.op= .convert src dst x){v:I}(av:(P.underlying src).isNone=T)(R:vp (gR P dst) (be t x)=j v):dq P m h a w E v h:=by
 have aj:=gr aL x;revert R aj;obtain⟨u,bH⟩:∃u,a.eval x=u:=⟨_,rfl⟩;rw[bH];generalize be t x=ex;intro R aj;obtain⟨fN,Nq⟩:∃fN,P.underlying src=j fN:=Option.isSome_iff_exists.1 (by simpa[<-Option.not_isSome]using av);unfold gR at R;rcases a6:P.underlying dst with _|Dg
 ·simp[a6,vp]at R
 ·rw[a6]at R;cases Dg<;>cases aj<;>simp[vp]at R
  ·subst R;exact dq.pure hw (u:=.int _ _) (by simp only[eG,am,bH,convert,hi,iz Nq,iz a6,hc];cases fN<;>simp[Conv.intToInt]<;>rfl) (.int _ _)
  ·subst R;exact dq.pure hw (u:=.string _) (by simp only[eG,am,bH,convert,hi,iz Nq,iz a6,hc];cases fN<;>simp<;>rfl) (.str _)
theorem Nr(hw:bU P m h w)(aL:dp P m h t a.tmps)(ty:aT)(x:fi)(am:E.op= .makeInterface ty x)(aB:tS P ty=Q):dq P m h a w E (.iface ty (be t x)) h:=by
 unfold tS at aB;rcases a6:P.underlying ty with _|d
 ·simp[a6]at aB
 ·refine dq.pure hw (u:=.iface ty (a.eval x)) ?_ (.iface _ _ _ (gr aL x));rw[a6]at aB;simp only[eG,am,Instr.makeInterface,hi,iz a6,hc];cases d<;>simp at aB ⊢
theorem Xn(hw:bU P m h w)(aL:dp P m h t a.tmps)(g:cJ)(first captured:Array fi)(am:E.op= .makeFunc (.func g) first captured):dq P m h a w E (.fn g (first.toList.map (be t)) (captured.toList.map (be t))) h:=by
 have F:=dj.map (P:=P) (m:=m) (h:=h) (f:=be t) (g:=a.eval) (l:=first.toList) (λx _=>gr aL x);have O:=dj.map (P:=P) (m:=m) (h:=h) (f:=be t) (g:=a.eval) (l:=captured.toList) (λx _=>gr aL x);refine dq.pure hw (u:=.func (.func g) (first.toList.map a.eval).toArray (captured.toList.map a.eval).toArray) ?_ (.fn _ _ _ _ _ F.1 O.1 F.2 O.2);simp only[eG,am,Instr.makeFunc,hi,ku,hc];have e:∀xs:Array fi,(xs.toList.map a.eval).toArray=xs.map a.eval:=λxs=>by apply Array.ext';simp
 rw[e,e]
theorem Xo(hw:bU P m h w)(aL:dp P m h t a.tmps)(x:fi)(i:Nat)(am:E.op= .extract x i){br:List I}{v:I}(R:be t x= .bW br)(aa:br[i]? =j v):dq P m h a w E v h:=by
 have aj:=gr aL x;rw[R]at aj;obtain⟨u,bH⟩:∃u,a.eval x=u:=⟨_,rfl⟩;rw[bH]at aj;cases aj with
 |bW _ bJ F af=>obtain⟨y,Ag,Ah⟩:=dj.get? (l:=br) (bJ:=bJ) ⟨F,af⟩ aa;exact dq.pure hw (u:=y) (by simp[eG,am,bH,Instr.extract,Ag]) Ah
theorem Xp(hw:bU P m h w)(aL:dp P m h t a.tmps)(x:fi)(Aj aS:aT)(ok:Bool)(am:E.op= .typeAssert x Aj aS ok){v:I}(R:be t x= .iface aS v)(aB:tS P aS=Q):dq P m h a w E (if ok then .bW [v,.bool Q]else v) h:=by
 have aj:=gr aL x;rw[R]at aj;obtain⟨u,bH⟩:∃u,a.eval x=u:=⟨_,rfl⟩;rw[bH]at aj;unfold tS at aB;rcases a6:P.underlying aS with _|d
 ·simp[a6]at aB
 ·rw[a6]at aB;cases aj with
  |iface _ _ bu F=>
    cases ok
    ·refine dq.pure hw (u:=bu) ?_ F;simp only[eG,am,bH,Instr.typeAssert,hi,iz a6,hc];cases d<;>simp at aB ⊢
    ·refine dq.pure hw (u:=.tuple [bu,.bool Q].toArray) ?_ ?_
     ·simp only[eG,am,bH,Instr.typeAssert,hi,iz a6,hc];cases d<;>simp at aB ⊢
     ·have:=dj.cons F (dj.cons (bI.bool Q) dj.nil);exact .bW _ _ this.1 this.2
theorem pb{q:aT}(aG:cB P q≠0):∃i,P.info? q=j i/\i.size=cB P q:=by
 unfold cB Program.cellsOf at*;rcases aa:P.info? q with _|i
 ·simp[aa]at aG
 ·exact⟨i,rfl,by simp⟩
theorem Ns{q:aT}(a6:P.underlying q=j d):∃i,P.info? q=j i:=by
 unfold Program.underlying at a6;rcases aa:P.info? q with _|i
 ·simp[aa]at a6
 ·exact⟨i,rfl⟩
theorem Nt{s:aT}{f:Nat}{q:Nat×aT}(aG:((qJ P s).bind (·[f]?))=j q):∃cP ua,P.underlying s=j (.struct cP)/\cP[f]? =j ua/\ua.offset=q.1/\ua.type=q.2:=by
 unfold qJ at aG;split at aG
 ·rename_i cP sZ;simp at aG;obtain⟨ua,F,O⟩:=aG;exact⟨cP,ua,sZ,F,by rw[<-O],by rw[<-O]⟩
 ·simp at aG
theorem Xq(hw:bU P m h w)(aL:dp P m h t a.tmps)(s:aT)(x:fi)(f:Nat)(am:E.op= .fieldAddr s x f){q:Nat×aT}(aG:((qJ P s).bind (·[f]?))=j q)(aN:cB P q.2≠0){v:I}(R:cf q.1 (be t x)=j v):dq P m h a w E v h:=by
 obtain⟨cP,ua,F,O,af,aw⟩:=Nt aG;obtain⟨jE,gh,hz⟩:=pb aN;have aj:=gr aL x;revert R aj;obtain⟨u,bH⟩:∃u,a.eval x=u:=⟨_,rfl⟩;rw[bH];generalize be t x=ex;intro R aj;have run:∀g off,(eG a.eval E).run P w= .ok (.value (.pointer (j ⟨g,off+q.1,ab⟩))) w\/u≠.pointer (j ⟨g,off,ab⟩):=by
  intro g off;by_cases Nu:u= .pointer (j ⟨g,off,ab⟩)
  ·left;subst Nu;simp only[eG,am,bH,Instr.fieldAt,hi,iz F,hc,O,Instr.sureAddr,ku,fieldPlace,aw,sizeOf,typeInfo,run_program,gh,hz,aN,if_false,af,oC]
  ·exact .inr Nu
 cases aj<;>simp[cf]at R
 ·rename_i b i off ai;subst R;refine dq.pure hw (u:=.pointer (j ⟨m.cb b,i*P.cellsOf (m.fY b)+(off+q.1),ab⟩)) ?_ (.ptr b i _ ai);have:=(run (m.cb b) (i*P.cellsOf (m.fY b)+off)).resolve_right (by simp);rwa [oE]at this
 ·rename_i cV b ai Hw;have:=(run (m.cb b) 0).resolve_right (by simp);rw[hk]at this;by_cases k3:q.1=0
  ·rw[if_pos k3]at R;subst R;rw[k3]at this;exact dq.pure hw this (.e2 _ b ai Hw)
  ·rw[if_neg k3]at R;subst R;have aB:=bI.ptr (P:=P) (m:=m) (h:=h) b 0 q.1 ai;rw[Nat.zero_mul,hk]at aB;exact dq.pure hw this aB
 ·rename_i e off g eO ag aa lr;subst R;refine dq.pure hw (u:=.pointer (j ⟨g,eO+(off+q.1),ab⟩)) ?_ (.ip e _ g eO ag aa lr);have:=(run g (eO+off)).resolve_right (by simp);rwa [oE]at this
end
open Go Go.RowKit
section
variable{P:cp}{m aR:dw}{h J:ad}{w aV:cQ}{t:List I}{a:Act}{E:a0}
theorem Nv(ty:aT)(a6:P.underlying ty=j d)(aN:cB P ty≠0){cs:List I}{fM:List bK}(ah:dj P m h cs fM)(off:Nat){v:I}(R:gG (jc P ty) (cB P ty) cs off=j v):∃u,(part ty fM.toArray off).run P w= .ok u w/\bI P m h v u:=by
 obtain⟨jE,gh,hz⟩:=pb aN;unfold gG at R;unfold part;simp only[hi,Hs ty a6,hc];cases rT:jc P ty
 ·simp only[rT,mI,if_false]at R ⊢;obtain⟨u,F,O⟩:=ah.get? R;exact⟨u,by simp[F],O⟩
 ·simp only[rT,if_true]at R ⊢;split at R
  ·rename_i hle;injection R with R;subst R;refine⟨.agg ((fM.drop off).take (cB P ty)).toArray,?_,?_⟩
   ·simp[sizeOf,typeInfo,gh,hz]
   ·refine .agg _ _ (by simp[ah.1]) (λD U cS=>?_);simp only[List.getElem_take,List.getElem_drop];exact ah.2 _ _ _
  ·cases R
theorem Xr(hw:bU P m h w)(aL:dp P m h t a.tmps)(s:aT)(x:fi)(f:Nat)(am:E.op= .field s x f){q:Nat×aT}(aG:((qJ P s).bind (·[f]?))=j q)(aN:cB P q.2≠0)(jV:P.underlying q.2≠ab){cs:List I}{v:I}(an:be t x= .agg cs)(R:gG (jc P q.2) (cB P q.2) cs q.1=j v):dq P m h a w E v h:=by
 obtain⟨cP,ua,F,O,af,aw⟩:=Nt aG;have aj:=gr aL x;rw[an]at aj;obtain⟨u,bH⟩:∃u,a.eval x=u:=⟨_,rfl⟩;rw[bH]at aj;obtain⟨d,a6⟩:=Option.ne_none_iff_exists'.1 jV;cases aj with
 |agg _ bJ c1 eg=>obtain⟨fj,bT,bQ⟩:=Nv (w:=w) q.2 a6 aN (cs:=cs) (fM:=bJ) ⟨c1,eg⟩ q.1 R;refine dq.pure hw (u:=fj) ?_ bQ;simp[eG,am,bH,Instr.field,iz F,O,asAgg,af,aw,bT]
theorem pZ{e:aT}(he:i0 P ty=j e):P.underlying ty=j (.slice e):=by
 unfold i0 at he;split at he
 case isFalse=>cases he
 split at he
 ·rename_i dC F;injection he with he;rw[F,he]
 ·cases he
theorem ub(gI:nZ P){e:aT}(he:i0 P ty=j e):0<P.cellsOf e:=by
 have h:=he;unfold i0 at h;split at h
 ·rename_i bh;exact gI.pos ty e bh (pZ he)
 ·cases h
theorem Nw{e:aT}{z:List I}(aN:jv P e=j z):e<P.types.size:=by
 unfold jv at aN;split at aN
 ·assumption
 ·cases aN
theorem Dh{q:Nat×aT}(he:o9 P ty=j q):P.underlying ty=j (.array q.1 q.2):=by
 unfold o9 at he;split at he
 ·rename_i n e F;injection he with he;rw[F,<-he]
 ·cases he
theorem Xs(gI:nZ P)(hw:bU P m h w)(aL:dp P m h t a.tmps)(ty:aT)(x b8:fi)(am:E.op= .indexAddr ty x b8){v:I}(R:d8 P ty (be t x) (be t b8)=j v):dq P m h a w E v h:=by
 have aj:=gr aL x;have Z:=gr aL b8;revert R aj Z;obtain⟨u,bH⟩:∃u,a.eval x=u:=⟨_,rfl⟩;obtain⟨Ak,uc⟩:∃Ak,a.eval b8=Ak:=⟨_,rfl⟩;rw[bH,uc];generalize be t x=ex;generalize be t b8=eA;intro R aj Z;cases aj with
 |me e dO cap=>
   cases Z with
   |int yA k=>
     simp only[d8]at R;split at R
     ·simp at R
     ·cases R
   |_=>simp[d8]at R
 |bR id e es g eO cap ag al aa qU i1 wT=>
   cases Z with
   |int yA k=>
     simp only[d8]at R;split at R
     ·rename_i jg;obtain⟨he,jF⟩:=jg;have i3:=pZ he;have nj:=ub gI he;obtain⟨r,ah,R⟩:=dd.1 R;obtain⟨bh,nk⟩:=gg.1 ah;obtain⟨jE,gh,hz⟩:=pb (P:=P) (q:=e) (by unfold cB;omega);have hlen:r.length=P.cellsOf e:=al r (nk ▸ h2 bh);subst R;refine dq.pure hw (u:=.pointer (j ⟨g,eO+k.toNat*P.cellsOf e+0,ab⟩)) ?_ (.ip r 0 g (eO+k.toNat*P.cellsOf e) (ag k.toNat) ?_ ?_)
      ·have Nx:k<(es.length:Int):=by omega
       have F:jE.size=P.cellsOf e:=hz;simp only[eG,am,bH,uc,Instr.indexAt,asIntOf,hi,ku,hc,iz i3,jF,Nx,and_self,if_true,sizeOf,typeInfo,run_program,gh,F,oC,Nat.add_zero]
      ·intro D U;rw[oE];exact aa k.toNat bh D (by omega)
      ·intro D U;have:=qU k.toNat bh D (by rw[nk];exact U);simpa only[nk]using this
     ·cases R
   |_=>simp[d8]at R
 |bd b eO n e cap ai oG i1 au i2=>
   cases Z with
   |int yA k=>
     simp only[d8]at R;split at R
     ·rename_i jg;obtain⟨he,jF,wU⟩:=jg;have i3:=pZ he;have nj:=ub gI he;obtain⟨jE,gh,hz⟩:=pb (P:=P) (q:=e) (by unfold cB;omega);injection R with R;subst R;have aB:=bI.ptr (P:=P) (m:=m) (h:=h) b (eO+k.toNat) 0 ai;rw[oG]at aB;refine dq.pure hw (u:=.pointer (j ⟨m.cb b,(eO+k.toNat)*P.cellsOf e+0,ab⟩)) ?_ aB;have F:jE.size=P.cellsOf e:=hz;simp only[eG,am,bH,uc,Instr.indexAt,asIntOf,hi,ku,hc,iz i3,jF,wU,and_self,if_true,sizeOf,typeInfo,run_program,gh,F,oC,Nat.add_zero,Nat.add_mul]
     ·cases R
   |_=>simp[d8]at R
 |ptr b i off ai=>
   cases Z with
   |int yA k=>
     simp only[d8]at R;obtain⟨q,aG,R⟩:=c'.1 R;split at R
     ·rename_i jg;obtain⟨aN,jF,wU⟩:=jg;have wV:=Dh aG;obtain⟨jE,gh,hz⟩:=pb aN;injection R with R;subst R;have aB:=bI.ptr (P:=P) (m:=m) (h:=h) b i (off+k.toNat*cB P q.2) ai;refine dq.pure hw (u:=_) ?_ aB;simp only[eG,am,bH,uc,Instr.indexAt,asIntOf,Instr.sureAddr,hi,ku,hc,iz wV,jF,wU,and_self,if_true,sizeOf,typeInfo,run_program,gh,hz,oC,oE]
     ·cases R
   |_=>simp[d8]at R
 |ip e off g eO ag aa qU=>
   cases Z with
   |int yA k=>
     simp only[d8]at R;obtain⟨q,aG,R⟩:=c'.1 R;split at R
     ·rename_i jg;obtain⟨aN,jF,wU⟩:=jg;have wV:=Dh aG;obtain⟨jE,gh,hz⟩:=pb aN;injection R with R;subst R;have aB:=bI.ip (P:=P) (m:=m) (h:=h) e (off+k.toNat*cB P q.2) g eO ag aa qU;refine dq.pure hw (u:=_) ?_ aB;simp only[eG,am,bH,uc,Instr.indexAt,asIntOf,Instr.sureAddr,hi,ku,hc,iz wV,jF,wU,and_self,if_true,sizeOf,typeInfo,run_program,gh,hz,oC,oE]
     ·cases R
   |_=>simp[d8]at R
 |_=>simp[d8]at R
theorem Xt(l:List UInt8)(n:Nat):(⟨l.toArray⟩:ByteArray)[n]? =l[n]? :=by
 by_cases au:n<l.length
 ·rw[ByteArray.getElem?_lt' _ _ (by simpa[ByteArray.size]using au),fz au];rfl
 ·rw[ByteArray.getElem?_ge' _ _ (by simpa[ByteArray.size]using au),lU (by omega)]
theorem Xu(hw:bU P m h w)(aL:dp P m h t a.tmps)(ty:aT)(x b8:fi)(am:E.op= .index ty x b8){v:I}(R:tW P ty (be t x) (be t b8)=j v):dq P m h a w E v h:=by
 have aj:=gr aL x;have Z:=gr aL b8;revert R aj Z;obtain⟨u,bH⟩:∃u,a.eval x=u:=⟨_,rfl⟩;obtain⟨Ak,uc⟩:∃Ak,a.eval b8=Ak:=⟨_,rfl⟩;rw[bH,uc];generalize be t x=ex;generalize be t b8=eA;intro R aj Z;cases aj with
 |str l=>
   cases Z with
   |int yA k=>
     simp only[tW]at R;split at R
     ·rename_i jg;obtain⟨av,jF⟩:=jg;obtain⟨c,s0,R⟩:=dd.1 R;subst R;unfold nc at av;split at av
      ·rename_i nl;refine dq.pure hw (u:=.int .u8 c.toNat) ?_ (.int _ _);simp only[eG,am,bH,uc,Instr.index,asIntOf,hi,ku,hc,iz nl,jF,if_true,Xt,s0]
      ·cases av
     ·cases R
   |_=>simp[tW]at R
 |agg cs bJ c1 eg=>
   cases Z with
   |int yA k=>
     simp only[tW]at R;obtain⟨q,aG,R⟩:=c'.1 R;split at R
     ·rename_i jg;obtain⟨Xv,aN,jF,wU⟩:=jg;have wV:=Dh aG;obtain⟨jE,gh,hz⟩:=pb aN;obtain⟨d,a6⟩:=Option.isSome_iff_exists.1 Xv;obtain⟨fj,bT,bQ⟩:=Nv (w:=w) q.2 a6 aN (cs:=cs) (fM:=bJ) ⟨c1,eg⟩ _ R;refine dq.pure hw (u:=fj) ?_ bQ;simp only[eG,am,bH,uc,Instr.index,asIntOf,hi,ku,hc,iz wV,jF,wU,and_self,if_true,sizeOf,typeInfo,run_program,gh,hz,bT]
     ·cases R
   |_=>simp[tW]at R
 |_=>simp[tW]at R
end
open Go Go.RowKit
section
variable{P:cp}{m aR:dw}{h J:ad}{w aV:cQ}{t:List I}{a:Act}{E:a0}
theorem Di(l:List UInt8):(⟨l.toArray⟩:ByteArray).size=l.length:=by show l.toArray.size=_;simp
theorem Ny(hw:bU P m h w)(aL:dp P m h t a.tmps)(lP:Bool)(x y:fi)(c:Call)(am:E.op= .call c)(aj:c.callee= .builtin (if lP then .max else .min))(aM:c.args= #[x,y]){v:I}(au:vq lP (be t x) (be t y)=j v):dq P m h a w E v h:=by
 have h4:=gr aL x;have pc:=gr aL y;revert au h4 pc;obtain⟨u,bH⟩:∃u,a.eval x=u:=⟨_,rfl⟩;obtain⟨fj,Al⟩:∃u,a.eval y=u:=⟨_,rfl⟩;rw[bH,Al];generalize be t x=ex;generalize be t y=ud;intro au h4 pc;unfold vq at au;split at au
 ·injection au with au;subst au;cases h4;cases pc;obtain⟨callee,args,argTypes⟩:=c;simp only at aj aM;subst aj aM;cases lP
  ·refine dq.pure hw (u:=.int _ _) ?_ (.int _ _);simp[eG,am,bH,Al,resolve,invoke,builtin,Builtin.min_,Builtin.min2]
  ·refine dq.pure hw (u:=.int _ _) ?_ (.int _ _);simp[eG,am,bH,Al,resolve,invoke,builtin,Builtin.max_,Builtin.max2]
 ·cases au
theorem Xw(hw:bU P m h w)(aL:dp P m h t a.tmps)(x:fi)(ty:aT)(oH:List aT)(am:E.op= .call {callee:=.builtin .len,args:= #[x],argTypes:=(ty::oH).toArray}){n:Nat}(bc:tT P ty (be t x)=Q)(au:h0 (be t x)=j n):dq P m h a w E (C6 n) h:=by
 have aj:=gr aL x;revert bc au aj;obtain⟨u,bH⟩:∃u,a.eval x=u:=⟨_,rfl⟩;rw[bH];generalize be t x=ex;intro bc au aj;refine dq.pure hw (u:=.int o n) ?_ (.int _ _);have pre:(eG a.eval E).run P w=((Builtin.len_ (ty::oH).toArray E.type #[u]).run P w).andThen λv aV=>.ok (.value v) aV:=by simp[eG,am,resolve,invoke,builtin,bH]
 rw[pre];cases aj<;>simp[h0,tT]at bc au
 ·subst au;unfold nc at bc;split at bc
  ·rename_i a6;simp[Builtin.len_,iz a6,goInt,Di]
  ·cases bc
 ·subst au;unfold C7 at bc;obtain⟨e,he⟩:=Option.isSome_iff_exists.1 bc;simp[Builtin.len_,iz (pZ he),goInt]
 all_goals
  subst au;simp[Builtin.len_,iz (pZ bc),goInt]
def yB:bK->bK->Bool
 |.nilIface,.nilIface=>T
 |.agg _,.agg _=>T
 |_,_=>Q
theorem Xx(op:BinOp)(ty:aT)(x y:fi)(u v:bK)(cO:yB u v=Q):(eqGuard op ty x y u v).run P w= .ok () w:=by cases op<;>first|rfl|(cases u<;>first|rfl|(cases v<;>first|rfl|simp[yB]at cO))
theorem Dj(op:BinOp)(ty qV:aT)(x y:fi)(am:E.op= .binOp op ty x y qV){v r:bK}(bH:a.eval x=u)(R:a.eval y=v)(cO:yB u v=Q)(ah:(binOp op ty u v).run P w= .ok r w):(eG a.eval E).run P w= .ok (.value r) w:=by simp only[eG,am,bH,R,hi,Xx op ty x y u v cO,hc,ah,ku]
theorem Xy(op:BinOp)(ty:aT)(k cn:jC)(x y:Int){v:I}(eV:jw)(R:dV eV op (.int k x) (.int cn y)=j v):∃r,(binOp op ty (.int k x) (.int cn y)).run P w= .ok r w/\bI P m h v r:=by
 cases op
 case shl=>
  simp only[dV]at R;split at R
  ·cases R
  ·rename_i ae;injection R with R;subst R;exact⟨_,by simp[binOp,Op.shift,ae],.int _ _⟩
 case shr=>
  simp only[dV]at R;split at R
  ·cases R
  ·rename_i ae;injection R with R;subst R;exact⟨_,by simp[binOp,Op.shift,ae],.int _ _⟩
 case rem=>
  simp only[dV]at R;split at R
  ·rename_i Z;subst Z;simp only[nd]at R;split at R
   ·cases R
   ·rename_i ae;injection R with R;subst R;exact⟨_,by simp[binOp,Op.intDiv,ae],.int _ _⟩
  ·cases R
 all_goals
  simp only[dV]at R;split at R
  ·rename_i Z;subst Z
   first
   |(simp only[nd]at R;injection R with R;subst R;first
     |(refine⟨_,?_,.int _ _⟩;simp[binOp,Op.intArith];done)
     |(refine⟨_,?_,.int _ _⟩;simp[binOp,Op.intBits];done)
     |(refine⟨_,?_,.bool _⟩;simp[binOp,Op.intCmp];done))
   |(simp[nd]at R)
  ·cases R
theorem Xz(op:BinOp)(ty:aT)(x y:List UInt8){v:I}(eV:jw)(R:dV eV op (.str x) (.str y)=j v):∃r,(binOp op ty (.string ⟨x.toArray⟩) (.string ⟨y.toArray⟩)).run P w= .ok r w/\bI P m h v r:=by
 cases op<;>simp only[dV]at R<;>try (cases R;done)
 ·split at R
  ·rename_i hle;injection R with R;subst R;refine⟨.string ⟨(x++y).toArray⟩,?_,.str _⟩;have F:¬(o.max<(x.length:Int)+(y.length:Int)):=by simp[IntKind.max,IntKind.bits,IntKind.signed];omega
   have e:(⟨x.toArray⟩:ByteArray)++⟨y.toArray⟩=⟨(x++y).toArray⟩:=by apply ByteArray.ext;simp
   simp[binOp,Op.stringOp,Di,e];omega
  ·cases R
 ·injection R with R;subst R;exact⟨_,by simp[binOp,Op.stringOp],.bool _⟩
 ·injection R with R;subst R;exact⟨_,by simp[binOp,Op.stringOp,bne],.bool _⟩
theorem Nz(ty:aT){x y:I}{v:bK}{b:Bool}(ai:mG (gR P ty) x y=j b)(an:bI P m h x u)(bF:bI P m h y v):yB u v=Q/\(binOp .eql ty u v).run P w= .ok (.bool b) w/\(binOp .neq ty u v).run P w= .ok (.bool !b) w:=by
 have Z:(gR P ty= .bool\/gR P ty= .ptr\/gR P ty= .slice)\/(gR P ty= .func\/gR P ty= .iface):=by revert ai;generalize gR P ty=eV;intro ai;unfold mG at ai;split at ai<;>simp_all
 rcases Z with(Z|Z|Z)|(Z|Z)
 all_goals
  have a6:=Z;unfold gR at a6;rw[Z]at ai;split at a6<;>simp at a6
 all_goals
  rename_i mh;have kx:∀{u v:bK},yB u v=Q->(∀d,(Op.equalIn (d+1) ty u v).run P w= .ok b w)->(∀op,op=BinOp.eql\/op=BinOp.neq->binOp op ty u v=(match op with|.eql=>(do pure (.bool (<-Op.equal ty u v)))|_=>(do pure (.bool (!(<-Op.equal ty u v)))):Sem bK))->yB u v=Q/\(binOp .eql ty u v).run P w= .ok (.bool b) w/\(binOp .neq ty u v).run P w= .ok (.bool !b) w:=by
   intro u v F O af;have aw:(Op.equal ty u v).run P w= .ok b w:=O 9999;refine⟨F,?_,?_⟩
   ·rw[af _ (.inl rfl)];simp[aw]
   ·rw[af _ (.inr rfl)];simp[aw]
  cases an<;>simp[mG]at ai<;>cases bF<;>simp at ai<;>(try subst ai)<;>refine kx rfl (λd=>?_) (λop am=>by rcases am with rfl|rfl<;>rfl)<;>simp[Op.equalIn,iz mh]
end
open Go Go.RowKit
section
variable{P:cp}{m aR:dw}{h J:ad}{w aV:cQ}{t:List I}{a:Act}{E:a0}
theorem XA{k:jC}(Z:gR P ty= .int k):P.underlying ty=j (.int k):=by unfold gR at Z;split at Z<;>simp at Z;rename_i F;rw[F,Z]
theorem XB(Z:gR P ty= .bool):P.underlying ty=j .bool:=by unfold gR at Z;split at Z<;>simp at Z;assumption
theorem XC(Z:gR P ty= .str):P.underlying ty=j .string:=by unfold gR at Z;split at Z<;>simp at Z;assumption
theorem NA(ty:aT)(a6:P.underlying ty=j d)(rT:jc P ty=T)(cs:List bK)(off:Nat)(bH:cs[off]? =j u):(part ty cs.toArray off).run P w= .ok u w:=by unfold part;simp only[hi,Hs ty a6,hc,rT];simp[bH]
theorem NB:∀(cP:List Field) (i d:Nat) (X Y:List I) (s1 s2:List bK) (r:Bool),dj P m h X s1->dj P m h Y s2->(cP.zipIdx i).all (λ(f,i)=>f.name != "_"&&f.offset==i&&P.cellsOf f.type==1)=Q->qK (cP.map λf=>gR P f.type) (X.drop i) (Y.drop i)=j r->(Op.eqFields (d+1) s1.toArray s2.toArray cP).run P w= .ok r w
 |[],i,d,X,Y,s1,s2,r,Ai,Hx,bc,he=>by simp only[qQ]at he;unfold qK at he;split at he<;>simp_all [Op.eqFields]
 |f::cP,i,d,X,Y,s1,s2,r,Ai,Hx,bc,he=>by
   simp only[List.zipIdx_cons,List.all_cons,gS,bne_iff_ne,beq_iff_eq]at bc;obtain⟨⟨⟨au,XD⟩,_⟩,Dk⟩:=bc;simp only[jU]at he;have step:∀(x y:I) (xs dZ:List I) (b bM:Bool),X.drop i=x::xs->Y.drop i=y::dZ->qK (cP.map λf=>gR P f.type) xs dZ=j bM->r=(b&&bM)->jc P f.type=T->(∃Dg,P.underlying f.type=j Dg)->(∀u v,bI P m h x u->bI P m h y v->(Op.equalIn (d+1) f.type u v).run P w= .ok b w)->(Op.eqFields (d+1) s1.toArray s2.toArray (f::cP)).run P w= .ok r w:=by
    intro x y xs dZ b bM ex ud XE ah rT ⟨Dg,yC⟩ heq;have an:X[i]? =j x:=by have:=congrArg (·[0]?) ex;simpa using this
    have bF:Y[i]? =j y:=by have:=congrArg (·[0]?) ud;simpa using this
    obtain⟨u,k2,jV⟩:=Ai.get? an;obtain⟨v,pa,hd⟩:=Hx.get? bF;have XF:X.drop (i+1)=xs:=by have:=congrArg (List.drop 1) ex;simpa using this
    have XG:Y.drop (i+1)=dZ:=by have:=congrArg (List.drop 1) ud;simpa using this
    have aW:=NB cP (i+1) d X Y s1 s2 bM Ai Hx Dk (by rw[XF,XG];exact XE);have ed:=NA (w:=w) f.type yC rT s1 i k2;have gJ:=NA (w:=w) f.type yC rT s2 i pa;simp only[Op.eqFields,au,ne_eq,not_false_eq_true,if_true,XD,hi,ed,gJ,hc,heq u v jV hd];cases b
    ·simp[ah]
    ·simp[ah,aW]
   generalize amL:X.drop i=amM at he step;generalize amN:Y.drop i=amO at he step;unfold qK at he;split at he
   ·rename_i aG;simp at aG
   ·rename_i _ _ _ ia aZ k dO xs cn e5 dZ ao;injection ao with ao aq;split at he
    ·rename_i Dl;subst Dl;obtain⟨bM,F,O⟩:=dd.1 he;have nl:=XA ao;refine step _ _ _ _ (dO==e5) bM rfl rfl (by rw[aq];exact F) O.symm (by simp[jc,nl]) ⟨_,nl⟩ (λu v bH R=>?_);cases bH;cases R;simp[Op.equalIn,iz nl]
    ·cases he
   ·rename_i _ _ _ aZ dO xs e5 dZ ao;injection ao with ao aq;obtain⟨bM,F,O⟩:=dd.1 he;have nl:=XB ao;refine step _ _ _ _ (dO==e5) bM rfl rfl (by rw[aq];exact F) O.symm (by simp[jc,nl]) ⟨_,nl⟩ (λu v bH R=>?_);cases bH;cases R;simp[Op.equalIn,iz nl]
   ·rename_i _ _ _ aZ dO xs e5 dZ ao;injection ao with ao aq;obtain⟨bM,F,O⟩:=dd.1 he;have nl:=XC ao;refine step _ _ _ _ (dO==e5) bM rfl rfl (by rw[aq];exact F) O.symm (by simp[jc,nl]) ⟨_,nl⟩ (λu v bH R=>?_);cases bH;cases R;simp[run_equalIn_string,nl]
   ·cases he
theorem NC(hw:bU P m h w)(aL:dp P m h t a.tmps)(op:BinOp)(ty qV:aT)(x y:fi)(am:E.op= .binOp op ty x y qV){xs dZ:List I}{aZ:List jw}{b:Bool}{v:I}(an:be t x= .agg xs)(bF:be t y= .agg dZ)(Z:sU P ty=j aZ)(ai:qK aZ xs dZ=j b)(ib:(op= .eql/\v= .bool b)\/(op= .neq/\v= .bool !b)):dq P m h a w E v h:=by
 have F:=gr aL x;have O:=gr aL y;rw[an]at F;rw[bF]at O;obtain⟨ls,k2⟩:∃u,a.eval x=u:=⟨_,rfl⟩;obtain⟨mi,jV⟩:∃u,a.eval y=u:=⟨_,rfl⟩;rw[k2]at F;rw[jV]at O;cases F with
 |agg _ dh aJ a1=>
 cases O with
 |agg _ cC c9 dx=>
 unfold sU at Z;split at Z
 ·rename_i cP sZ;split at Z
  ·rename_i aj;injection Z with Z;subst Z;simp only[gS,Bool.not_eq_true']at aj;obtain⟨⟨a8,bZ⟩,b'⟩:=aj;have Dm:P.fieldsOf ty=cP:=by simp[Program.fieldsOf,sZ]
   have nl:P.underlying ty=j (.struct (P.fieldsOf ty)):=by rw[Dm];exact sZ
   have eo:(Op.equalIn 10000 ty (.agg dh.toArray) (.agg cC.toArray)).run P w= .ok b w:=by rw[show(10000:Nat)=9999+1 from rfl,run_equalIn_agg w 9999 ty _ _ nl a8,Dm];exact NB cP.toList 0 9998 xs dZ dh cC b ⟨aJ,a1⟩ ⟨c9,dx⟩ b' ai
   rcases ib with⟨rfl,rfl⟩|⟨rfl,rfl⟩
   ·refine dq.pure hw (u:=.bool b) ?_ (.bool _);simp only[eG,am,k2,jV,hi,run_eqGuard_agg w _ _ _ _ _ _ bZ,hc,run_eql_struct,eo,ku]
   ·refine dq.pure hw (u:=.bool !b) ?_ (.bool _);simp only[eG,am,k2,jV,hi,run_eqGuard_agg w _ _ _ _ _ _ bZ,hc,run_neq_struct,eo,ku]
  ·cases Z
 ·cases Z
theorem ND(x:bK)(k:jC)(i:Int)(y:Nat)(c:BoundsCode)(an:x= .int k i)(ae:0<=i)(F:i<=y):(Instr.sliceBound x y c).run P w= .ok i.toNat w:=by subst an;simp[Instr.sliceBound,asIntOf,ae,F]
theorem Am(XH:Bool)(n cap:Nat)(hg aa:Option fi)(aL:dp P m h t a.tmps){l r:Int}(al:wL (hg.map (be t))=j l)(ah:yp n (aa.map (be t))=j r)(ae:0<=l)(F:l<=r)(O:r<=n)(af:n<=cap):(Instr.sliceBounds XH n cap (hg.map a.eval) (aa.map a.eval) ab).run P w= .ok (l.toNat,r.toNat,cap) w:=by
 have Dn:∀x,aa=j x->∀(y:Nat) c,r<=(y:Int)->(Instr.sliceBound (a.eval x) y c).run P w= .ok r.toNat w:=by intro x Hy y c bF;subst Hy;have an:=gr aL x;simp only[hj]at ah;generalize be t x=ex at ah an;generalize a.eval x=De at an;cases an<;>simp[yp]at ah;subst ah;exact ND _ _ _ _ _ rfl (by omega) (by omega)
 have Dp:∀x,hg=j x->∀(y:Nat) c,l<=(y:Int)->(Instr.sliceBound (a.eval x) y c).run P w= .ok l.toNat w:=by intro x Hy y c bF;subst Hy;have an:=gr aL x;simp only[hj]at al;generalize be t x=ex at al an;generalize a.eval x=De at an;cases an<;>simp[wL]at al;subst al;exact ND _ _ _ _ _ rfl (by omega) (by omega)
 cases aa with
 |none=>
   have fZ:r.toNat=n:=by simp[yp]at ah;omega
   cases hg with
   |none=>
     have hl:l.toNat=0:=by simp[wL]at al;omega
     simp[Instr.sliceBounds,fZ,hl]
   |some x=>simp[Instr.sliceBounds,fZ,Dp x rfl n _ (by omega)]
 |some y=>
   cases hg with
   |none=>
     have hl:l.toNat=0:=by simp[wL]at al;omega
     simp[Instr.sliceBounds,hl,Dn y rfl cap _ (by omega)]
   |some x=>simp[Instr.sliceBounds,Dn y rfl cap _ (by omega),Dp x rfl r.toNat _ (by omega)]
theorem XI(F:nc P ty=Q):P.underlying ty=j .string:=by
 unfold nc at F;split at F
 ·assumption
 ·cases F
theorem XJ(F:C7 P ty=Q):∃e,i0 P ty=j e:=by unfold C7 at F;exact Option.isSome_iff_exists.1 F
theorem XK(gI:nZ P)(hw:bU P m h w)(aL:dp P m h t a.tmps)(ty:aT)(x:fi)(hg aa:Option fi)(am:E.op= .slice ty x hg aa ab)(bc:tT P ty (be t x)=Q){v:I}(R:tV (be t x) (hg.map (be t)) (aa.map (be t))=j v):dq P m h a w E v h:=by
 have aj:=gr aL x;have key:∃l n r,wL (hg.map (be t))=j l/\h0 (be t x)=j n/\yp n (aa.map (be t))=j r/\(0<=l/\l<=r/\r<=n)/\tU (be t x) l r=j v:=by
  unfold tV at R;obtain⟨l,al,pa⟩:=c'.1 R;obtain⟨n,au,hd⟩:=c'.1 pa;obtain⟨r,ah,vu⟩:=c'.1 hd;split at vu
  ·rename_i jg;exact⟨l,n,r,al,au,ah,jg,vu⟩
  ·cases vu
 clear R;obtain⟨l,n,r,al,au,ah,⟨ae,F,O⟩,R⟩:=key
 ·revert bc aj au R;obtain⟨u,bH⟩:∃u,a.eval x=u:=⟨_,rfl⟩;rw[bH];generalize be t x=ex;intro bc aj au R;have pre:∀{d:TypeDesc},P.underlying ty=j d->(∀k e,d≠.array k e)->(eG a.eval E).run P w=((Instr.slice ty u (hg.map a.eval) (aa.map a.eval) ab).run P w).andThen λv aV=>.ok (.value v) aV:=by intro d a6 cO;simp only[eG,am,bH,Instr.sliceAt,hi,iz a6,hc,Option.map_none];cases d<;>first|rfl|exact absurd rfl (cO _ _)
  cases aj with
  |str s=>
    simp only[h0,g5]at au;simp only[tU,g5]at R;subst au;subst R
    ·have a6:=XI (P:=P) (ty:=ty) bc;refine dq.pure hw (u:=.string ⟨((s.drop l.toNat).take (r.toNat - l.toNat)).toArray⟩) ?_ (.str _);rw[pre a6 (by simp)];simp only[Instr.slice,hi,iz a6,hc,Option.isSome_none,mI,if_false,Di,ku];rw[Am T s.length s.length hg aa aL al ah ae F O (bV _)];simp only[hc];congr 3;apply ByteArray.ext;simp[ByteArray.data_extract]
  |aF=>
    simp only[h0,g5]at au;simp only[tU,g5]at R;subst au;subst R
    ·obtain⟨e,NF⟩:=XJ (P:=P) (ty:=ty) bc;have a6:=pZ NF;have nj:=ub gI NF;obtain⟨jE,gh,hz⟩:=pb (P:=P) (q:=e) (by unfold cB;omega);have s3:l=0:=by omega
     have s4:r=0:=by omega
     refine dq.pure hw (u:=.slice ab 0 0) ?_ .aF;rw[pre a6 (by simp)];simp only[Instr.slice,hi,iz a6,hc];rw[Am Q 0 0 hg aa aL al ah ae F O (bV _)];simp[s3,s4,sizeOf,typeInfo,gh]
  |me e dO cap=>
    simp only[h0,g5,gK]at au;simp only[tU,g5,List.drop_nil,List.take_nil]at R;subst au;subst R;simp only[tT,beq_iff_eq]at bc;have a6:=pZ bc;have nj:=ub gI bc;obtain⟨jE,gh,hz⟩:=pb (P:=P) (q:=e) (by unfold cB;omega);have s3:l=0:=by omega
    have s4:r=0:=by omega
    refine dq.pure hw (u:=.slice (j dO) 0 cap) ?_ (.me e dO cap);rw[pre a6 (by simp)];simp only[Instr.slice,hi,iz a6,hc];rw[Am Q 0 cap hg aa aL al ah ae F O (k4 _)];simp[s3,s4,sizeOf,typeInfo,gh,Addr.add]
  |bR id e es g eO cap ag hle eb qU i1 wT=>
    simp only[h0,g5]at au;simp only[tU,g5]at R;subst au;subst R;simp only[tT,beq_iff_eq]at bc;have a6:=pZ bc;have nj:=ub gI bc;obtain⟨jE,gh,hz⟩:=pb (P:=P) (q:=e) (by unfold cB;omega);have g8:jE.size=P.cellsOf e:=hz;have hlen:((es.drop l.toNat).take (r.toNat - l.toNat)).length=r.toNat - l.toNat:=by simp;omega
    have kt:(eG a.eval E).run P w= .ok (.value (.slice (j (if cap=l.toNat then⟨g,eO,ab⟩else⟨g,eO+l.toNat*P.cellsOf e,ab⟩)) (r.toNat - l.toNat) (cap - l.toNat))) w:=by
     rw[pre a6 (by simp)];simp only[Instr.slice,hi,iz a6,hc];rw[Am Q es.length cap hg aa aL al ah ae F O i1];simp only[hc,sizeOf,typeInfo,hi,run_program,gh,ku,g8];by_cases jh:cap=l.toNat
     ·simp[jh]
     ·simp[jh,oC]
    obtain⟨bD,rV⟩:∃bD,(if cap=l.toNat then(⟨g,eO,ab⟩:Addr)else⟨g,eO+l.toNat*P.cellsOf e,ab⟩)=⟨g,bD,ab⟩/\(cap≠l.toNat->bD=eO+l.toNat*P.cellsOf e):=by
     by_cases jh:cap=l.toNat
     ·exact⟨eO,by simp[jh],λcO=>absurd jh cO⟩
     ·exact⟨_,by simp[jh],λ_=>rfl⟩
    obtain⟨rV,XL⟩:=rV;rw[rV]at kt;refine dq.pure hw kt ?_;have jW:=bI.bR (P:=P) (m:=m) (h:=h) ab e ((es.drop l.toNat).take (r.toNat - l.toNat)) g bD (cap - l.toNat) (λi D=>ag (l.toNat+i) D) (λq aG=>hle q (List.mem_of_mem_drop (List.mem_of_mem_take aG))) (by
     intro i NG D U;rw[hlen]at NG;rw[XL (by omega)];have:=eb (l.toNat+i) (by omega) D U;rw[Nat.add_mul]at this;rw[<-this];congr 1;omega) (by
     intro i NG D U;simp only[List.getElem_take,List.getElem_drop]at U ⊢;exact qU _ _ D U) (by rw[hlen];omega) (λk Z=>by cases Z)
    rw[hlen]at jW;exact jW
  |bd b eO bS e cap ai oG i1 mL i2=>
    simp only[h0,g5]at au;simp only[tU]at R;subst au;split at R
    ·rename_i s3;injection R with R;subst R;subst s3;simp only[tT,beq_iff_eq]at bc;have a6:=pZ bc;have nj:=ub gI bc;obtain⟨jE,gh,hz⟩:=pb (P:=P) (q:=e) (by unfold cB;omega);refine dq.pure hw (u:=.slice (j ⟨m.cb b,eO*P.cellsOf e,ab⟩) r.toNat cap) ?_ (.bd b eO r.toNat e cap ai oG i1 (by omega) i2);rw[pre a6 (by simp)];simp only[Instr.slice,hi,iz a6,hc];rw[Am Q bS cap hg aa aL al ah ae F O mL];simp only[hc,sizeOf,typeInfo,hi,run_program,gh,ku];by_cases jh:cap=0
     ·simp[jh]
     ·simp[oC]
    ·cases R
  |_=>simp[tU]at R
end
open Go Go.RowKit
section
variable{P:cp}{m aR:dw}{h J:ad}{w aV:cQ}{t:List I}{a:Act}{E:a0}
theorem NH(off:Nat)(v:bK)(cells:Array bK):(v.cells.zipIdx.foldl (λcs (x:bK×Nat)=>cs.setIfInBounds (off+x.2) x.1) cells).size=cells.size/\∀k,(v.cells.zipIdx.foldl (λcs (x:bK×Nat)=>cs.setIfInBounds (off+x.2) x.1) cells)[k]? =if off<=k/\k<off+v.cells.size/\k<cells.size then v.cells[k - off]? else cells[k]? :=by have:=Go.Great.foldl_set off v.cells.toList 0 cells;rw[<-Array.foldl_toList,Array.toList_zipIdx];simpa using this
theorem Hz(aL:dp P m h t a.tmps)(place:Nat->Option (Nat×Nat))(pl:List (Nat×Nat))(aB:∀i q,pl[i]? =j q->place i=j q):∀(L:List (Nat×fi)) (cs:List I) (cells:Array bK) (fM:List I),dj P m h cs cells.toList->nS pl cs (L.map λq=>(q.1,be t q.2))=j fM->∃ue,Instr.fill place cells (L.map λq=>(q.1,a.eval q.2))=j ue/\dj P m h fM ue.toList
 |[],cs,cells,fM,ah,bc=>by simp[nS]at bc;subst bc;exact⟨cells,by simp[Instr.fill],ah⟩
 |(i,x)::L,cs,cells,fM,ah,bc=>by
   simp only[jU,nS]at bc;rcases HA:pl[i]? with _|⟨off,size⟩
   ·simp[HA]at bc
   ·simp only[HA]at bc;split at bc
    ·rename_i aj;obtain⟨a8,bZ,b'⟩:=aj;obtain⟨v1,cW⟩:=(gr aL x).cells b';have qW:=v1.1;have wW:=ah.1;simp only[Array.length_toList]at qW wW;obtain⟨f1,f2⟩:=NH off (a.eval x) cells;have fZ:dj P m h (dt cs off (be t x).cells) ((a.eval x).cells.zipIdx.foldl (λcs (y:bK×Nat)=>cs.setIfInBounds (off+y.2) y.1) cells).toList:=by
      refine⟨by rw[Array.length_toList,f1,dt];simp;omega,λD U cS=>?_⟩;have aX:(cs.take off++(be t x).cells++cs.drop (off+(be t x).cells.length))[D]? =j (dt cs off (be t x).cells)[D]:=fz U;rw[Ht _ _ _ (by omega)]at aX;have nm:((a.eval x).cells.zipIdx.foldl (λcs (y:bK×Nat)=>cs.setIfInBounds (off+y.2) y.1) cells)[D]? =j (((a.eval x).cells.zipIdx.foldl (λcs (y:bK×Nat)=>cs.setIfInBounds (off+y.2) y.1) cells).toList[D]):=by rw[<-pd];exact fz cS
      rw[f2 D]at nm;by_cases gj:off<=D/\D<off+(be t x).cells.length
      ·rw[if_pos gj]at aX;rw[if_pos ⟨gj.1,by omega,by omega⟩]at nm;obtain⟨u,ls,mi⟩:=v1.get? aX;rw[pd]at ls;rw[ls]at nm;injection nm with nm;rw[<-nm];exact mi
      ·rw[if_neg gj]at aX;rw[if_neg (by omega)]at nm;obtain⟨u,ls,mi⟩:=ah.get? aX;rw[pd]at ls;rw[ls]at nm;injection nm with nm;rw[<-nm];exact mi
     obtain⟨ue,c1,cr⟩:=Hz aL place pl aB L _ _ fM fZ bc;refine⟨ue,?_,cr⟩;simp only[jU,Instr.fill,aB i _ HA];rw[if_neg (by simp;omega)];exact c1
    ·cases bc
theorem NI(gI:nZ P)(hw:bU P m h w)(aL:dp P m h t a.tmps)(ty:aT)(parts:Array (Nat×fi))(am:E.op= .build ty parts){z:List I}(aN:jv P ty=j z){cs:List I}(R:(∃pl,qJ P ty=j pl/\(∀q∈pl,cB P q.2≠0)/\nS (pl.map λq=>(q.1,cB P q.2)) z (parts.toList.map λq=>(q.1,be t q.2))=j cs)\/(∃n e,o9 P ty=j (n,e)/\cB P e≠0/\nS ((iQ n).map λi=>(i*cB P e,cB P e)) z (parts.toList.map λq=>(q.1,be t q.2))=j cs)):dq P m h a w E (.agg cs) h:=by
 obtain⟨i,v,aa,s5,al,av,ah,kt⟩:=vt (m:=m) (h:=h) (w:=w) gI aN;have key:∃cells,P.built ty (parts.map λ(i,x)=>(i,a.eval x)).toList=j cells/\dj P m h cs cells.toList:=by
  have XM:(parts.map λ(i,x)=>(i,a.eval x)).toList=parts.toList.map λq=>(q.1,a.eval q.2):=by simp
  rw[XM];unfold Program.built;rcases R with⟨pl,F,O,af⟩|⟨n,e,F,O,af⟩
  ·unfold qJ at F;split at F
   ·rename_i cP sZ;injection F with F;subst F;have ky:cP.toList.mapM (λf=>(P.info? f.type).map λi=>(f.offset,i.size))=j (cP.toList.map λf=>(f.offset,cB P f.type)):=by
     have:∀l:List Field,(∀f∈l,cB P f.type≠0)->l.mapM (λf=>(P.info? f.type).map λi=>(f.offset,i.size))=j (l.map λf=>(f.offset,cB P f.type)):=by
      intro l;induction l with
      |nil=>intro _;rfl
      |cons f l aW=>intro al;obtain⟨jE,gh,hz⟩:=pb (al f (by simp));simp[List.mapM_cons,gh,aW (λg aX=>al g (by simp[aX])),hz]
     exact this _ (λf bc=>O (f.offset,f.type) (n0.2 ⟨f,bc,rfl⟩))
    simp only[List.map_map]at af;obtain⟨cells,c1,cr⟩:=Hz aL (λx=>(cP.toList.map λf=>(f.offset,cB P f.type)).toArray[x]?) (cP.toList.map ((λq:Nat×aT=>(q.1,cB P q.2))∘λf=>(f.offset,f.type))) (λi q aG=>by simpa using aG) parts.toList z v.cells cs ah af;refine⟨cells,?_,cr⟩;simp only[aa,sZ,s5,ky];exact c1
   ·cases F
  ·have wV:=Dh F;obtain⟨jE,gh,hz⟩:=pb O;obtain⟨cells,c1,cr⟩:=Hz aL (λi=>j (i*jE.size,jE.size)) ((iQ n).map λi=>(i*cB P e,cB P e)) (λi q aG=>by simp only[s6,dd]at aG;obtain⟨D,U,rfl⟩:=aG;have:=gg.1 U;obtain⟨bh,NJ⟩:=this;simp at NJ;subst NJ;rw[hz]) parts.toList z v.cells cs ah af;refine⟨cells,?_,cr⟩;simp only[aa,wV,s5,gh];exact c1
 obtain⟨cells,F,O⟩:=key;refine dq.pure hw (u:=.agg cells) ?_ ?_
 ·have e:=run_build (P:=P) w ty (parts.map λ(i,x)=>(i,a.eval x)) cells F;simp only[eG,am,hi,e,hc,ku]
 ·have:=bI.agg (P:=P) (m:=m) (h:=h) cs cells.toList O.1 O.2;simpa using this
def Dq(P:cp)(m:dw)(h:ad)(dY:Nat)(es:List (List I))(cs:Array bK):Prop:=cs.size=es.length*dY/\(∀r∈es,r.length=dY)/\∀i (aa:i<es.length) D (U:D<es[i].length),∃v,cs[i*dY+D]? =j v/\bI P m h es[i][D] v
theorem NK(aL:dp P m h t a.tmps)(dY:Nat):∀(L:List (Nat×fi)) (es:List (List I)) (cells:Array bK) (fL:List (List I)),Dq P m h dY es cells->nT dY es (L.map λq=>(q.1,be t q.2))=j fL->∃ue,Instr.fill (λi=>j (i*dY,dY)) cells (L.map λq=>(q.1,a.eval q.2))=j ue/\Dq P m h dY fL ue/\fL.length=es.length
 |[],es,cells,fL,ah,bc=>by simp[nT]at bc;subst bc;exact⟨cells,by simp[Instr.fill],ah,rfl⟩
 |(i,x)::L,es,cells,fL,ah,bc=>by
   simp only[jU,nT]at bc;split at bc
   ·rename_i aj;obtain⟨a8,bZ,b'⟩:=aj;obtain⟨v1,cW⟩:=(gr aL x).cells b';have qW:=v1.1;simp only[Array.length_toList]at qW;obtain⟨bT,bQ,gL⟩:=ah;have gj:=nh (s:=dY) bZ;obtain⟨f1,f2⟩:=NH (i*dY) (a.eval x) cells;have fZ:Dq P m h dY (es.set i (be t x).cells) ((a.eval x).cells.zipIdx.foldl (λcs (y:bK×Nat)=>cs.setIfInBounds (i*dY+y.2) y.1) cells):=by
     refine⟨by rw[f1,bT,kK],λr ah=>?_,λh' eb D U=>?_⟩
     ·rcases List.mem_or_eq_of_mem_set ah with aG|aG
      ·exact bQ r aG
      ·rw[aG,a8]
     ·rw[f2];have g8:h'<es.length:=by simpa using eb
      by_cases ao:h'=i
      ·subst ao;have ka:(es.set h' (be t x).cells)[h']=(be t x).cells:=by simp
       have cS:D<(be t x).cells.length:=by rw[ka]at U;exact U
       rw[if_pos ⟨by omega,by omega,by omega⟩];obtain⟨u,ls,mi⟩:=v1.get? (fz cS);refine⟨u,by rw[<-ls,pd];congr 1;omega,?_⟩;simpa only[ka]using mi
      ·have ka:(es.set i (be t x).cells)[h']=es[h']:=by simp[kw ao]
       have cS:D<es[h'].length:=by rw[ka]at U;exact U
       have uf:D<dY:=by rw[bQ _ (h2 g8)]at cS;exact cS
       rw[if_neg (by
        rcases Nat.lt_or_gt_of_ne ao with aG|aG
        ·have:=nh (s:=dY) aG;omega
        ·have:=nh (s:=dY) aG;omega)]
       obtain⟨v,pa,hd⟩:=gL h' g8 D cS;exact⟨v,pa,by simpa only[ka]using hd⟩
    obtain⟨ue,c1,cr,eg⟩:=NK aL dY L _ _ fL fZ bc;refine⟨ue,?_,cr,by rw[eg,kK]⟩;simp only[jU,Instr.fill];rw[if_neg (by simp;omega)];exact c1
   ·cases bc
theorem bU.fresh(hw:bU P m h w)(aV:cQ)(e:aT)(es:List (List I))(cs:Array bK)(cap:Nat)(au:lT w aV)(qT:jD aV w.heap.size e cs)(av:cs.size=cap*P.cellsOf e)(aj:es.length<=cap)(i2:cap<=maxLen)(al:∀r∈es,r.length=P.cellsOf e)(R:∀i (aa:i<es.length) D (U:D<es[i].length),∃v,cs[i*P.cellsOf e+D]? =j v/\bI P m h es[i][D] v):∃aR,Ext m h aR (h.fresh es.length)/\bU P aR (h.fresh es.length) aV/\bI P aR (h.fresh es.length) (.bR (j h.ids) e es) (.slice (j ⟨w.heap.size,0,ab⟩) es.length cap):=by
 have HB:∀E,m.dF w.heap.size E=ab:=λE=>by
  rcases aa:m.dF w.heap.size E with _|v
  ·rfl
  ·have:=hw.pV aa;omega
 have an:Ext m h {m with dF:=λg E=>if g=w.heap.size then(if E<es.length*P.cellsOf e then cs[E]? else ab)else m.dF g E,h1:=λk=>if k=h.ids then w.heap.size else m.h1 k,qR:=λk=>if k=h.ids then cap else m.qR k,kJ:=λk=>if k=h.ids then e else m.kJ k} (h.fresh es.length):=by
  refine⟨rfl,bV _,by simp[ad.fresh],λb ai=>⟨rfl,rfl,rfl⟩,λg E v aa=>?_,λk Z=>?_,λ_ _ h=>h⟩
  ·have:g≠w.heap.size:=λe=>by rw[e,HB]at aa;cases aa
   simpa[this]using aa
  ·have:k≠h.ids:=by omega
   simp[ad.fresh,this]
 have fS:=hw.new au;have hle:es.length*P.cellsOf e<=cs.size:=by rw[av];exact Nat.mul_le_mul_right _ aj
 refine⟨_,an,?_,?_⟩
 ·refine⟨fS.size,λb x ai=>fS.lt b x ai,λb x ai=>?_,λb e5 x iI F O he=>fS.inj b e5 x iI F O he,λg E v aa=>?_,λb x ai E=>?_,λk Z=>?_,λk Z E p0=>?_,λk Z b x ai=>?_,λk cn Z nn he=>?_,fS.dk,λg x U=>?_⟩
  ·obtain⟨bZ,F,O,af,aw,bg⟩:=fS.live b x ai;refine⟨bZ,F,O,af,aw,λi aa D U=>?_⟩;obtain⟨v,cj,cT⟩:=bg i aa D U;exact⟨v,cj,cT.ext an⟩
  ·by_cases aX:g=w.heap.size
   ·subst aX;simp only[if_true]at aa;split at aa
    ·rw[qT.cell];exact aa
    ·cases aa
   ·simp only[aX,if_false]at aa;exact fS.dF g E v aa
  ·have:=hw.below ai;have cO:m.cb b≠w.heap.size:=by omega
   simp only[cO,if_false];exact fS.sep b x ai E
  ·by_cases jF:k=h.ids
   ·subst jF;simp only[if_true,ad.fresh];refine⟨cs.toList.take (es.length*P.cellsOf e),?_,.inr ⟨w.heap.size,cap,cs,rfl,hw.size,qT,aj,i2,av,rfl⟩⟩;simp;omega
   ·have yD:k<h.ids:=by simp[ad.fresh]at Z;omega
    simp only[jF,if_false,ad.fresh];exact fS.oD k yD
  ·by_cases jF:k=h.ids
   ·subst jF;simp only[if_true,ad.fresh]at p0 ⊢;rw[if_neg (by omega)]
   ·have yD:k<h.ids:=by simp[ad.fresh]at Z;omega
    simp only[jF,if_false,ad.fresh]at p0 ⊢;have:=(hw.pW yD).2;rw[if_neg (by omega)];exact fS.ng k yD E p0
  ·have pe:=hw.below ai;by_cases jF:k=h.ids
   ·simp only[jF,if_true];omega
   ·have yD:k<h.ids:=by simp[ad.fresh]at Z;omega
    simp only[jF,if_false];exact fS.mf k yD b x ai
  ·by_cases F:k=h.ids<;>by_cases O:cn=h.ids
   ·omega
   ·have:=(hw.pW (k:=cn) (by simp[ad.fresh]at nn;omega)).2;simp[F,O]at he;omega
   ·have:=(hw.pW (k:=k) (by simp[ad.fresh]at Z;omega)).2;simp[F,O]at he;omega
   ·simp[F,O]at he;exact hw.nY k cn (by simp[ad.fresh]at Z;omega) (by simp[ad.fresh]at nn;omega) he
  ·have bh:=hw.sW U;obtain⟨aJ,a1,bf,cv,ez⟩:=fS.e4 g x U;refine⟨aJ,a1,bf,λk Z=>?_,λE=>?_⟩
   ·by_cases jF:k=h.ids
    ·simp only[jF,if_true];omega
    ·simp only[jF,if_false];exact cv k (by simp[ad.fresh]at Z;omega)
   ·simp only[show ¬g=w.heap.size by omega,if_false];exact ez E
 ·refine .bR (j h.ids) e es w.heap.size 0 cap (λi D=>(cs[i*P.cellsOf e+D]?).getD fg) al (λi aa D U=>?_) (λi aa D U=>?_) aj (λk Z=>?_)
  ·have:=nh (s:=P.cellsOf e) aa;simp only[if_true,hk];rw[if_pos (by omega)];obtain⟨v,F,_⟩:=R i aa D (by rw[al _ (h2 aa)];exact U);simp[F]
  ·obtain⟨v,F,O⟩:=R i aa D U;simp only[F,pf];exact O.ext an
  ·injection Z with Z;subst Z;simp[ad.fresh]
theorem NL(len dY:Nat)(z:List I)(v:Array bK)(aN:dj P m h z v.toList)(al:z.length=dY)(aB:0<dY):Dq P m h dY (ax len z) ((Array.range (len*dY)).map (v[· % v.size]!)):=by
 have e6:v.size=dY:=by have:=aN.1;simp at this;omega
 refine⟨by simp,λr ah=>by rw[(List.mem_replicate.1 ah).2];exact al,λi aa D U=>?_⟩;simp only[List.getElem_replicate]at U ⊢;have eb:i<len:=by simpa using aa
 have:=nh (s:=dY) eb;obtain⟨u,ls,mi⟩:=aN.get? (fz U);refine⟨u,?_,mi⟩;have XN:(i*dY+D) % dY=D:=by rw[Nat.mul_comm,Nat.mul_add_mod];exact Nat.mod_eq_of_lt (by omega)
 rw[pd]at ls;have bh:i*dY+D<len*dY:=by omega
 simp only[Array.getElem?_map,e6];rw[Array.getElem?_eq_getElem (by simpa using bh)];simp only[Array.getElem_range,hj,XN];rw[getElem!_def,ls]
theorem bU.lay(hw:bU P m h w)(aV:cQ)(e:aT)(es:List (List I))(cs:Array bK)(cap:Nat)(au:lT w aV)(qT:jD aV w.heap.size e cs)(av:cs.size=cap*P.cellsOf e)(aj:es.length<=cap)(al:∀r∈es,r.length=P.cellsOf e)(R:∀i (aa:i<es.length) D (U:D<es[i].length),∃v,cs[i*P.cellsOf e+D]? =j v/\bI P m h es[i][D] v):∃aR,Ext m h aR h/\bU P aR h aV/\bI P aR h (.bR ab e es) (.slice (j ⟨w.heap.size,0,ab⟩) es.length cap):=by
 have HB:∀E,m.dF w.heap.size E=ab:=λE=>by
  rcases aa:m.dF w.heap.size E with _|v
  ·rfl
  ·have:=hw.pV aa;omega
 have an:Ext m h {m with dF:=λg E=>if g=w.heap.size then(if E<es.length*P.cellsOf e then cs[E]? else ab)else m.dF g E} h:=by
  refine⟨rfl,bV _,bV _,λb ai=>⟨rfl,rfl,rfl⟩,λg E v aa=>?_,λk Z=>⟨rfl,bV _,λ_=>⟨rfl,rfl⟩⟩,λ_ _ h=>h⟩;have:g≠w.heap.size:=λe=>by rw[e,HB]at aa;cases aa
  simpa[this]using aa
 have fS:=hw.new au;have hle:es.length*P.cellsOf e<=cs.size:=by rw[av];exact Nat.mul_le_mul_right _ aj
 refine⟨_,an,?_,?_⟩
 ·refine⟨fS.size,λb x ai=>fS.lt b x ai,λb x ai=>?_,λb e5 x iI F O he=>fS.inj b e5 x iI F O he,λg E v aa=>?_,λb x ai E=>?_,fS.oD,λk Z E p0=>?_,fS.mf,fS.nY,fS.dk,λg x U=>?_⟩
  ·obtain⟨bZ,F,O,af,aw,bg⟩:=fS.live b x ai;refine⟨bZ,F,O,af,aw,λi aa D U=>?_⟩;obtain⟨v,cj,cT⟩:=bg i aa D U;exact⟨v,cj,cT.ext an⟩
  ·by_cases aX:g=w.heap.size
   ·subst aX;simp only[if_true]at aa;split at aa
    ·rw[qT.cell];exact aa
    ·cases aa
   ·simp only[aX,if_false]at aa;exact fS.dF g E v aa
  ·have:=hw.below ai;have cO:m.cb b≠w.heap.size:=by omega
   simp only[cO,if_false];exact fS.sep b x ai E
  ·have:=(hw.pW Z).2;simp only[show ¬m.h1 k=w.heap.size by omega,if_false];exact fS.ng k Z E p0
  ·have bh:=hw.sW U;obtain⟨aJ,a1,bf,cv,ez⟩:=fS.e4 g x U;refine⟨aJ,a1,bf,cv,λE=>?_⟩;simp only[show ¬g=w.heap.size by omega,if_false];exact ez E
 ·refine .bR ab e es w.heap.size 0 cap (λi D=>(cs[i*P.cellsOf e+D]?).getD fg) al (λi aa D U=>?_) (λi aa D U=>?_) aj (λk Z=>by cases Z)
  ·have:=nh (s:=P.cellsOf e) aa;simp only[if_true,hk];rw[if_pos (by omega)];obtain⟨v,F,_⟩:=R i aa D (by rw[al _ (h2 aa)];exact U);simp[F]
  ·obtain⟨v,F,O⟩:=R i aa D U;simp only[F,pf];exact O.ext an
theorem XO(gI:nZ P)(hw:bU P m h w)(aL:dp P m h t a.tmps)(ty:aT)(len:Nat)(parts:Array (Nat×fi))(am:E.op= .buildSlice ty len parts){e:aT}(he:i0 P ty=j e){z:List I}(aN:jv P e=j z){es:List (List I)}(R:nT (cB P e) (ax len z) (parts.toList.map λq=>(q.1,be t q.2))=j es)(HC:len*cB P e<=16777216):dq P m h a w E (.bd h.n 0 len e) (h.push es)/\dq P m h a w E (.bR (j h.ids) e es) (h.fresh len)/\dq P m h a w E (.bR ab e es) h:=by
 have i3:=pZ he;have nj:=ub gI he;obtain⟨i,v,aa,s5,al,av,ah,kt⟩:=vt (m:=m) (h:=h) (w:=w) gI aN;have hz:i.size=P.cellsOf e:=by simp[Program.cellsOf,aa]
 have k3:=NL (P:=P) (m:=m) (h:=h) len (P.cellsOf e) z v.cells ah al nj;obtain⟨cells,c1,cr,eg⟩:=NK aL (P.cellsOf e) parts.toList _ _ es k3 R;simp only[List.length_replicate]at eg;have mM:(parts.map λ(i,x)=>(i,a.eval x)).toList=parts.toList.map λq=>(q.1,a.eval q.2):=by simp
 have ai:(Instr.buildSlice ty len (parts.map λ(i,x)=>(i,a.eval x))).run P w= .ok (.slice (j ⟨w.heap.size,0,ab⟩) len len) (w.alloc (.cells cells e)):=by
  by_cases hlen:len=0
  ·subst hlen;have s4:Array.range 0= #[]:=rfl;have XP:Instr.fill (λi=>j (i*P.cellsOf e,P.cellsOf e)) #[] (parts.toList.map λq=>(q.1,a.eval q.2))=j cells:=by rw[Nat.zero_mul,s4,Array.map_empty]at c1;exact c1
   simp only[Instr.buildSlice,hi,iz i3,hc,sizeOf,typeInfo,run_program,aa,ku,hz,mM,Nat.zero_mul,s4,Nat.not_lt_zero,gt_iff_lt,if_false,if_true];simp[XP,newRow]
  ·have hmul:0<len*P.cellsOf e:=Nat.mul_pos (by omega) nj;have mN:=run_buildSlice (P:=P) w ty e len (parts.map λ(i,x)=>(i,a.eval x)) cells i v i3 aa s5 (by rw[hz];unfold cB at HC;omega) (by rw[hz];omega) (by rw[hz,mM];exact c1);rw[mN]
 have HD:(eG a.eval E).run P w= .ok (.value (.slice (j ⟨w.heap.size,0,ab⟩) len len)) (w.alloc (.cells cells e)):=by simp only[eG,am,hi,ai,hc,ku]
 obtain⟨Dr,HE,HF⟩:=cr;have i2:len<=maxLen:=by have:len*1<=len*P.cellsOf e:=Nat.mul_le_mul_left _ nj;unfold maxLen cB at*;omega
 refine⟨?_,?_,?_⟩
 ·obtain⟨aR,F,O,af,aw,bg⟩:=hw.push (w.alloc (.cells cells e)) e es cells ((g4.refl _ w).alloc _) (jD.new w _ _) (pg Dr.symm) HE HF;refine⟨aR,_,_,.inl HD,F,O,?_,(k0 _ _).alloc hw.size _⟩;have:=bI.bd (P:=P) (m:=aR) (h:=h.push es) h.n 0 len e len (by simp[ad.push]) aw (by rw[bg,Dr,eg,hk]) (bV _) i2;rw[af]at this;simpa using this
 ·obtain⟨aR,F,O,af⟩:=hw.fresh (w.alloc (.cells cells e)) e es cells len ((g4.refl _ w).alloc _) (jD.new w _ _) (by rw[Dr,eg]) (by rw[eg];exact bV _) i2 HE HF;rw[eg]at F O af;exact⟨aR,_,_,.inl HD,F,O,af,(k0 _ _).alloc hw.size _⟩
 ·obtain⟨aR,F,O,af⟩:=hw.lay (w.alloc (.cells cells e)) e es cells len ((g4.refl _ w).alloc _) (jD.new w _ _) (by rw[Dr,eg]) (by rw[eg];exact bV _) HE HF;rw[eg]at af;exact⟨aR,_,_,.inl HD,F,O,af,(k0 _ _).alloc hw.size _⟩
theorem XQ(gI:nZ P)(hw:bU P m h w)(aL:dp P m h t a.tmps)(ty:aT)(l c:fi)(am:E.op= .makeSlice ty l c){e:aT}(he:i0 P ty=j e){z:List I}(aN:jv P e=j z){dc dr:jC}{n:Int}(al:be t l= .int dc n)(aj:be t c= .int dr n)(ae:0<=n)(HC:n<=100000):dq P m h a w E (.bd h.n 0 n.toNat e) (h.push (ax n.toNat z)):=by
 have i3:=pZ he;have nj:=ub gI he;obtain⟨i,v,aa,s5,hl,av,ah,kt⟩:=vt (m:=m) (h:=h) (w:=w) gI aN;have hz:i.size=P.cellsOf e:=by simp[Program.cellsOf,aa]
 have v1:=gr aL l;have cW:=gr aL c;rw[al]at v1;rw[aj]at cW;obtain⟨ls,k2⟩:∃u,a.eval l=u:=⟨_,rfl⟩;obtain⟨mi,jV⟩:∃u,a.eval c=u:=⟨_,rfl⟩;rw[k2]at v1;rw[jV]at cW;cases v1;cases cW;have rR:=gI.small e i (Nw aN) aa;have ai:(i.bytes:Int)*n<=281474976710656:=by have F:(i.bytes:Int)*n<=100000*100000:=Int.mul_le_mul (by omega) HC ae (by omega);omega
 have k3:=NL (P:=P) (m:=m) (h:=h) n.toNat (P.cellsOf e) z v.cells ah hl nj;obtain⟨bT,bQ,gL⟩:=k3;have NM:=run_make (P:=P) w ty e i v i3 aa s5 dc dr n n ae (Int.le_refl _) ai (by omega);have ao:madeCells v.cells (n.toNat*i.size)=(Array.range (n.toNat*P.cellsOf e)).map (v.cells[· % v.cells.size]!):=by rw[hz];rfl
 rw[ao]at NM;obtain⟨aR,F,O,af,aw,bg⟩:=hw.push (w.alloc (.cells ((Array.range (n.toNat*P.cellsOf e)).map (v.cells[· % v.cells.size]!)) e)) e (ax n.toNat z) _ ((g4.refl _ w).alloc _) (jD.new w _ _) (pg bT.symm) bQ gL;refine⟨aR,_,.slice (j ⟨w.heap.size,0,ab⟩) n.toNat n.toNat,.inl ?_,F,O,?_,(k0 _ _).alloc hw.size _⟩
 ·simp only[eG,am,k2,jV,hi,NM,hc,ku]
 ·have:=bI.bd (P:=P) (m:=aR) (h:=h.push (ax n.toNat z)) h.n 0 n.toNat e n.toNat (by simp[ad.push]) aw (by rw[bg,bT,List.length_replicate,hk]) (bV _) (by unfold maxLen;omega);rw[af]at this;simpa using this
end
open Go Go.RowKit
section
variable{P:cp}{m aR:dw}{h J:ad}{w aV:cQ}{t:List I}{a:Act}{E:a0}
theorem HG(base:Nat)(t ty e:aT)(i:TypeInfo)(z:bK)(size bytes:Nat)(aL:P.underlying t=j (.slice e))(aa:P.info? e=j i)(aN:i.zero=j z)(qP:i.size=size)(rR:i.bytes=bytes)(Af:z.cells.size=size)(ey:0<size)(v:bK)(n:Nat)(xs:List bK)(hK:w.ownsRow base e size v n xs)(a:Addr)(m c:Nat)(ug:0<m)(news:List bK)(al:news.length=m*size)(uh:∀D u,news[D]? =j u->w.cell? (a.add D)=j u)(F:∀u∈news,u.oneCell'=Q)(tZ:n+m<=maxLen)(wQ:(n+m)*bytes<=140737488355328)(wR:base<=w.heap.size):∃g cap aV,(t' #[t,t] ty #[v,.slice (j a) m c]).run P w= .ok (.slice (j ⟨g,0,ab⟩) (n+m) cap) aV/\aV.ownsRow base e size (.slice (j ⟨g,0,ab⟩) (n+m) cap) (n+m) (xs++news)/\((v.ownBlock=j g/\g4 (λk=>k=g) w aV/\∃k,v= .slice (j ⟨g,0,ab⟩) n k)\/(g=w.heap.size/\lT w aV)):=by
 subst qP;subst rR;have XR:n+m<=9223372036854775807:=by simp only[maxLen]at tZ;omega
 have hlen:(xs++news).length=(n+m)*i.size:=by rw[eP,hK.1,al,Nat.add_mul]
 have grown:∀(eX:Nat),eX<n+m->(w.drew.alloc (.cells (xs.toArray++news.toArray++Builtin.zeroCells z.cells (grownCap w (n+m) eX e - (n+m))) e)).ownsRow base e i.size (.slice (j ⟨w.heap.size,0,ab⟩) (n+m) (grownCap w (n+m) eX e)) (n+m) (xs++news)/\lT w (w.drew.alloc (.cells (xs.toArray++news.toArray++Builtin.zeroCells z.cells (grownCap w (n+m) eX e - (n+m))) e)):=by
  intro eX am;have rQ:=grownCap_ge w (n+m) eX e;have wX:grownCap w (n+m) eX e<=maxLen:=grownCap_le_maxLen w (n+m) eX e tZ;refine⟨⟨hlen,.inr ⟨w.heap.size,_,_,rfl,wR,heap_alloc_new w.drew _,rQ,wX,?_,?_⟩⟩,⟨rfl,rfl,rfl,by simp,λk Z _=>heap_alloc_old w.drew _ Z⟩⟩
  ·simp only[Array.size_append,List.size_toArray,size_zeroCells,Af,hK.1,al,<-Nat.add_mul];congr 1;omega
  ·simp only[Array.toList_append,kv];rw[<-kv,<-hlen];exact List.take_left
 rcases hK.2 with⟨rfl,rfl⟩|⟨g,cap,cur,rfl,HH,aX,tY,wX,nf,yw⟩
 ·have an:xs=[]:=List.eq_nil_of_length_eq_zero (by simpa using hK.1);subst an;have ah:=run_append_nil (P:=P) w t ty e i z aL aa aN a m c news al uh (by omega) (by omega) (by have ai:=wQ;simp only[hk]at ai;omega);have np:=grown 0 (by omega);simp only[hk,k5,Array.empty_append]at np ⊢;exact⟨_,_,_,ah,np.1,.inr ⟨rfl,np.2⟩⟩
 ·by_cases yE:n+m<=cap
  ·have XS:n*i.size+news.length<=cur.size:=by rw[al,nf,<-Nat.add_mul];exact Nat.mul_le_mul_right _ yE
   have ah:=run_append_room (P:=P) w t ty e i aL aa g n cap cur aX a m c news al uh F yE XS;refine⟨_,_,_,ah,⟨hlen,.inr ⟨g,cap,_,rfl,HH,setRow_heap w g cur _ e _ aX,yE,wX,?_,?_⟩⟩,.inl ⟨rfl,⟨rfl,rfl,rfl,by simp,λk _ Z=>setRow_other w g k _ Z⟩,⟨_,rfl⟩⟩⟩
   ·simp only[List.size_toArray,eP,List.length_take,List.length_drop,Array.length_toList];omega
   ·rw[yw,<-hlen];exact List.take_left
  ·have holds:∀D u,xs[D]? =j u->w.cell? ((⟨g,0,ab⟩:Addr).add D)=j u:=hK.cells (g:=g) rfl;have ah:=run_append_grow (P:=P) w t ty e i z aL aa aN ⟨g,0,ab⟩ n cap xs hK.1 holds a m c news al uh (by omega) (by omega) (growslice_fits (by omega) wQ);have np:=grown cap (by omega);exact⟨_,_,_,ah,np.1,.inr ⟨rfl,np.2⟩⟩
def mj(P:cp)(m:dw)(h:ad)(dY:Nat)(es:List (List I))(l:List bK):Prop:=l.length=es.length*dY/\(∀r∈es,r.length=dY)/\∀i (aa:i<es.length) D (U:D<es[i].length),∃v,l[i*dY+D]? =j v/\bI P m h es[i][D] v
theorem mj.one{dY:Nat}{es:List (List I)}{l:List bK}(ah:mj P m h dY es l)(aB:0<dY)(F:es.all (·.all I.one)=Q):∀u∈l,u.oneCell'=Q:=by
 intro u bH;obtain⟨k,Z,rfl⟩:=List.getElem_of_mem bH;obtain⟨bT,bQ,gL⟩:=ah;have aa:k / dY<es.length:=Nat.div_lt_of_lt_mul (by rw[Nat.mul_comm,<-bT];exact Z);have U:k % dY<es[k / dY].length:=by rw[bQ _ (h2 aa)];exact Nat.mod_lt _ aB
 obtain⟨v,O,af⟩:=gL _ aa _ U;have e:k / dY*dY+k % dY=k:=by rw[Nat.mul_comm];exact Nat.div_add_mod k dY
 rw[e,fz Z]at O;injection O with O;rw[O];simp only[iR]at F;exact af.one (F _ (h2 aa) _ (h2 U))
theorem NN(hw:bU P m h w){e:aT}{x:I}(an:bI P m h x u)(mL:x≠.aF){new:List (List I)}(au:iO h e x=j new):∃nX n c news,u= .slice (j nX) n c/\n=new.length/\mj P m h (P.cellsOf e) new news/\∀D v,news[D]? =j v->w.cell? (nX.add D)=j v:=by
 cases an with
 |aF=>exact absurd rfl mL
 |me dC dO cap=>
   simp only[iO]at au;split at au
   ·injection au with au;subst au;exact⟨dO,0,cap,[],rfl,rfl,⟨by simp,by simp,λi aa=>by simp at aa⟩,λD v U=>by simp at U⟩
   ·cases au
 |bR id dC es g eO cap ag hle eb qU i1 wT=>
   simp only[iO]at au;split at au
   ·rename_i he;subst he;injection au with au;subst au;have XT:0<P.cellsOf dC\/P.cellsOf dC=0:=by omega
    refine⟨⟨g,eO,ab⟩,es.length,cap,(iQ (es.length*P.cellsOf dC)).map λk=>ag (k / P.cellsOf dC) (k % P.cellsOf dC),rfl,rfl,⟨by simp,hle,λi aa D U=>?_⟩,λD v U=>?_⟩
    ·have uf:D<P.cellsOf dC:=by rw[<-hle _ (h2 aa)];exact U
     have:=nh (s:=P.cellsOf dC) aa;have a6:(i*P.cellsOf dC+D) / P.cellsOf dC=i:=by rw[Nat.mul_comm,Nat.mul_add_div (by omega),Nat.div_eq_of_lt uf,Nat.add_zero]
     have hm:(i*P.cellsOf dC+D) % P.cellsOf dC=D:=by rw[Nat.mul_comm,Nat.mul_add_mod];exact Nat.mod_eq_of_lt uf
     refine⟨ag i D,?_,qU i aa D U⟩;rw[s6,List.getElem?_range (by omega)];simp only[hj,a6,hm]
    ·simp only[s6,dd]at U;obtain⟨k,Z,rfl⟩:=U;obtain⟨bh,Dl⟩:=gg.1 Z;simp at bh Dl;subst Dl;have aB:0<P.cellsOf dC:=by
      rcases XT with F|F
      ·exact F
      ·rw[F]at bh;omega
     have a6:D / P.cellsOf dC<es.length:=Nat.div_lt_of_lt_mul (by rw[Nat.mul_comm];exact bh);have hm:=Nat.mod_lt D aB;have:=hw.dF _ _ _ (eb _ a6 _ hm);rw[oC];have aq:D / P.cellsOf dC*P.cellsOf dC+D % P.cellsOf dC=D:=by rw[Nat.mul_comm];exact Nat.div_add_mod D _
     rwa [aq]at this
   ·cases au
 |bd b eO bS dC cap ai oG i1 mL i2=>
   simp only[iO]at au;split at au
   ·rename_i he;subst he;obtain⟨es,i3,au⟩:=c'.1 au;split at au
    ·rename_i hle;injection au with au;subst au;obtain⟨cs,F,O,af,aw,bg⟩:=hw.live b es i3;rw[oG]at F af aw bg;have hm:(eO+bS)*P.cellsOf dC<=es.length*P.cellsOf dC:=Nat.mul_le_mul_right _ hle;rw[Nat.add_mul]at hm;have hlen:((es.drop eO).take bS).length=bS:=by simp;omega
     refine⟨_,bS,cap,(cs.toList.drop (eO*P.cellsOf dC)).take (bS*P.cellsOf dC),rfl,hlen.symm,⟨by rw[hlen];simp;omega,λr ah=>af r (List.mem_of_mem_drop (List.mem_of_mem_take ah)),λi aa D U=>?_⟩,λD v U=>?_⟩
     ·have hz:i<bS/\eO+i<es.length:=by simp at aa;omega
      have ao:((es.drop eO).take bS)[i]=es[eO+i]'hz.2:=by simp
      have cS:D<es[eO+i].length:=by rw[<-ao];exact U
      have uf:D<P.cellsOf dC:=by rw[<-af _ (h2 hz.2)];exact cS
      obtain⟨v,v1,cW⟩:=bg (eO+i) hz.2 D cS;have amP:=nh (s:=P.cellsOf dC) hz.1;refine⟨v,?_,by simpa using cW⟩;rw[rW (by omega),List.getElem?_drop,pd];rw[show eO*P.cellsOf dC+(i*P.cellsOf dC+D)=(eO+i)*P.cellsOf dC+D by rw[Nat.add_mul];omega];exact v1
     ·have bh:D<bS*P.cellsOf dC:=by have:=(gg.1 U).1;simp at this;omega
      rw[rW bh,List.getElem?_drop,pd]at U;rw[oC,F.cell];exact U
    ·cases au
   ·cases au
 |_=>simp[iO]at au
theorem vv(ty:aT)(oH:List aT)(x y:fi)(am:E.op= .call {callee:=.builtin .append,args:= #[x,y],argTypes:=(ty::oH).toArray}){v r:bK}(bH:a.eval x=u)(R:a.eval y=v)(ah:(t' (ty::oH).toArray E.type #[u,v]).run P w= .ok r aV):(eG a.eval E).run P w= .ok (.value r) aV:=by simp only[eG,am,resolve,invoke,builtin,hi,ku,hc,List.map_toArray,jU,qQ,bH,R,ah]
theorem XU(ty e:aT)(oH:List aT)(p1:P.underlying ty=j (.slice e))(aa:P.info? e≠ab)(HI:oH=[ty])(ui:aT)(A:Option Addr)(n c:Nat)(tY:n<=c):(t' (ty::oH).toArray ui #[.slice A n c,.slice ab 0 0]).run P w= .ok (.slice A n c) w:=by subst HI;obtain⟨i,aa⟩:=Option.ne_none_iff_exists'.1 aa;cases A<;>simp[t',iz p1,sizeOf,typeInfo,aa,Builtin.lenOf,Builtin.firstCells,tY,storeCells]
theorem XV(ty e:aT)(oH:List aT)(p1:P.underlying ty=j (.slice e))(aa:P.info? e≠ab)(HI:oH=[ty])(ui:aT)(A:Option Addr)(n c:Nat)(tY:n<=c)(nX:Addr)(bZ:Nat):(t' (ty::oH).toArray ui #[.slice A n c,.slice (j nX) 0 bZ]).run P w= .ok (.slice A n c) w:=by subst HI;obtain⟨i,aa⟩:=Option.ne_none_iff_exists'.1 aa;cases A<;>simp[t',iz p1,sizeOf,typeInfo,aa,Builtin.lenOf,Builtin.firstCells,tY,storeCells,loadCells,loadCellsFrom]
theorem XW(hw:bU P m h w){e:aT}{es:List (List I)}{xs:List bK}{g cap:Nat}(hK:w.ownsRow m.base e (P.cellsOf e) (.slice (j ⟨g,0,ab⟩) es.length cap) es.length xs)(al:∀r∈es,r.length=P.cellsOf e)(R:∀i (aa:i<es.length) D (U:D<es[i].length),∃v,w.cell? ⟨g,i*P.cellsOf e+D,ab⟩=j v/\bI P m h es[i][D] v):mj P m h (P.cellsOf e) es xs:=by
 refine⟨hK.1,al,λi aa D U=>?_⟩;have uf:D<P.cellsOf e:=by rw[<-al _ (h2 aa)];exact U
 have:=nh (s:=P.cellsOf e) aa;have bh:i*P.cellsOf e+D<xs.length:=by rw[hK.1];omega
 obtain⟨v,F,O⟩:=R i aa D U;have af:=hK.cells (g:=g) rfl (i*P.cellsOf e+D) xs[i*P.cellsOf e+D] (fz bh);rw[oC,hk,F]at af;injection af with af;exact⟨v,by rw[fz bh,af],O⟩
theorem mj.append{dY:Nat}{es cP:List (List I)}{l k:List bK}(F:mj P m h dY es l)(O:mj P m h dY cP k):mj P m h dY (es++cP) (l++k):=by
 obtain⟨aJ,a1,bf⟩:=F;obtain⟨c9,dx,gH⟩:=O;refine⟨by simp[aJ,c9,Nat.add_mul],λr ah=>?_,λi aa D U=>?_⟩
 ·rcases List.mem_append.1 ah with h|h
  ·exact a1 r h
  ·exact dx r h
 ·by_cases bh:i<es.length
  ·have ao:(es++cP)[i]=es[i]:=List.getElem_append_left bh;have cS:D<es[i].length:=by rw[ao]at U;exact U
   have uf:D<dY:=by rw[<-a1 _ (h2 bh)];exact cS
   have:=nh (s:=dY) bh;obtain⟨v,v1,cW⟩:=bf i bh D cS;exact⟨v,by rw[mJ (by omega)];exact v1,by simpa only[ao]using cW⟩
  ·have g8:i - es.length<cP.length:=by simp at aa;omega
   have ao:(es++cP)[i]=cP[i - es.length]:=List.getElem_append_right (by omega);have cS:D<cP[i - es.length].length:=by rw[ao]at U;exact U
   have hle:es.length*dY<=i*dY:=Nat.mul_le_mul_right _ (by omega);obtain⟨v,v1,cW⟩:=gH _ g8 D cS;refine⟨v,?_,by simpa only[ao]using cW⟩;rw[pY (by omega),<-v1];congr 1;rw[Nat.sub_mul];omega
theorem mj.take{dY:Nat}{es:List (List I)}{l:List bK}(F:mj P m h dY es l)(n:Nat)(au:n<=es.length):mj P m h dY (es.take n) (l.take (n*dY)):=by
 obtain⟨aJ,a1,bf⟩:=F;have hle:n*dY<=es.length*dY:=Nat.mul_le_mul_right _ au;refine⟨by simp[aJ,Nat.min_eq_left hle,Nat.min_eq_left au],λr ah=>a1 r (List.mem_of_mem_take ah),λi aa D U=>?_⟩;have eb:i<n/\i<es.length:=by simp at aa;omega
 have ao:(es.take n)[i]=es[i]'eb.2:=by simp
 have cS:D<(es[i]'eb.2).length:=by rw[ao]at U;exact U
 have uf:D<dY:=by rw[<-a1 _ (h2 eb.2)];exact cS
 have:=nh (s:=dY) eb.1;obtain⟨v,v1,cW⟩:=bf i eb.2 D cS;exact⟨v,by rw[rW (by omega)];exact v1,by simpa only[ao]using cW⟩
end
open Go Go.RowKit
section
variable{P:cp}{m aR:dw}{h J:ad}{w aV:cQ}{t:List I}{a:Act}{E:a0}
theorem bU.grown(hw:bU P m h w){k:Nat}(Z:k<h.ids){xs news:List bK}{n jG g cap:Nat}(au:n=h.hw k)(ug:0<jG)(hold:w.ownsRow m.base (m.kJ k) (P.cellsOf (m.kJ k)) (.slice (j ⟨m.h1 k,0,ab⟩) n (m.qR k)) n xs)(ey:0<P.cellsOf (m.kJ k))(hK:aV.ownsRow m.base (m.kJ k) (P.cellsOf (m.kJ k)) (.slice (j ⟨g,0,ab⟩) (n+jG) cap) (n+jG) (xs++news))(aX:(g=m.h1 k/\g4 (λq=>q=g) w aV)\/(g=w.heap.size/\lT w aV))(es:List (List I))(HJ:mj P m h (P.cellsOf (m.kJ k)) es (xs++news))(i3:es.length=n+jG):∃aR,Ext m h aR (h.grow k (n+jG))/\bU P aR (h.grow k (n+jG)) aV/\bI P aR (h.grow k (n+jG)) (.bR (j k) (m.kJ k) es) (.slice (j ⟨g,0,ab⟩) (n+jG) cap)/\Below m.base w aV:=by
 subst au;generalize eo:m.kJ k=e at*;generalize cl:P.cellsOf e=S at*;have HK:=hw.pW Z;have yx:∀E v,(xs++news)[E]? =j v->aV.cell? ⟨g,E,ab⟩=j v:=by intro E v am;have:=hK.cells (g:=g) rfl E v am;rwa [oC,hk]at this
 have XX:∀E v,xs[E]? =j v->w.cell? ⟨m.h1 k,E,ab⟩=j v:=by intro E v am;have:=hold.cells (g:=m.h1 k) rfl E v am;rwa [oC,hk]at this
 have qX:xs.length=h.hw k*S:=hold.1;have amQ:(xs++news).length=(h.hw k+jG)*S:=hK.1;have bh:h.hw k*S<(h.hw k+jG)*S:=by rw[Nat.add_mul];have:=Nat.mul_pos ug ey;omega
 have NO:∀fa E v,m.dF fa E=j v->(if fa=g/\E<(h.hw k+jG)*S then(xs++news)[E]? else m.dF fa E)=j v/\aV.cell? ⟨fa,E,ab⟩=j v:=by
  intro fa E v aa;have aj:=hw.dF _ _ _ aa;by_cases ao:fa=g
  ·subst ao;rcases aX with⟨fr,h3⟩|⟨fr,eZ⟩
   ·have am:E<h.hw k*S:=by
     rcases mc E (h.hw k*S)with F|F
     ·exact F
     ·have:=hw.ng k Z E (by rw[eo,cl];exact F);rw[<-fr,aa]at this;cases this
    have an:xs[E]? =j v:=by have F:=fz (l:=xs) (i:=E) (by omega);have O:=XX E _ F;rw[<-fr,aj]at O;injection O with O;rw[F,O]
    have p2:(xs++news)[E]? =j v:=by rw[mJ (by omega)];exact an
    exact⟨by rw[if_pos ⟨rfl,by omega⟩];exact p2,yx E v p2⟩
   ·have:=hw.pV aa;omega
  ·refine⟨by rw[if_neg (λbP=>ao bP.1)];exact aa,?_⟩;rcases aX with⟨fr,h3⟩|⟨fr,eZ⟩
   ·rw[World.cell?_of_block (w:=w) (h3.block _ (hw.pV aa) ao)];exact aj
   ·rw[World.cell?_of_block (w:=w) (eZ.block _ (hw.pV aa) id)];exact aj
 have an:Ext m h {m with dF:=λfa E=>if fa=g/\E<(h.hw k+jG)*S then(xs++news)[E]? else m.dF fa E,h1:=λq=>if q=k then g else m.h1 q,qR:=λq=>if q=k then cap else m.qR q} (h.grow k (h.hw k+jG)):=by
  refine⟨rfl,bV _,bV _,λb ai=>⟨rfl,rfl,rfl⟩,λfa E v aa=>(NO fa E v aa).1,λq aG=>⟨rfl,?_,λhe=>?_⟩,λ_ _ h=>h⟩
  ·by_cases ao:q=k
   ·subst ao;simp[ad.grow]
   ·simp[ad.grow,ao]
  ·by_cases ao:q=k
   ·subst ao;simp[ad.grow]at he;omega
   ·simp[ao]
 have qP:w.heap.size<=aV.heap.size:=by
  rcases aX with⟨_,h3⟩|⟨_,eZ⟩
  ·exact h3.size
  ·exact eZ.size
 have qY:∀q,q<w.heap.size->q≠m.h1 k->aV.heap[q]? =w.heap[q]? :=by
  intro q aG cO;rcases aX with⟨fr,h3⟩|⟨fr,eZ⟩
  ·exact h3.block q aG (λe=>cO (e.trans fr))
  ·exact eZ.block q aG id
 have NP:m.base<=g:=by
  rcases aX with⟨fr,_⟩|⟨fr,_⟩
  ·rw[fr];exact HK.1
  ·rw[fr];exact hw.size
 have NQ:∀b x,h.cell b=j x->m.cb b≠g:=by
  intro b x ai;rcases aX with⟨fr,_⟩|⟨fr,_⟩
  ·rw[fr];exact hw.mf k Z b x ai
  ·have:=hw.below ai;omega
 refine⟨_,an,?_,?_,?_⟩
 ·refine⟨ef hw.size qP,hw.lt,λb x ai=>?_,hw.inj,λfa E v aa=>?_,λb x ai E=>?_,λq aG=>?_,λq aG E am=>?_,λq aG b x ai=>?_,λq eH aG qZ he=>?_,hw.dk.fH hw.size λfa nm bh=>qY fa nm (λe=>by have:=HK.1;omega),λD x U=>?_⟩
  ·obtain⟨cs,a8,bZ,b',du,fk⟩:=hw.live b x ai;refine⟨cs,(qY _ a8.lt (hw.mf k Z b x ai)).trans a8,bZ,b',du,λi aa D U=>?_⟩;obtain⟨v,v1,cW⟩:=fk i aa D U;exact⟨v,v1,cW.ext an⟩
  ·simp only at aa;split at aa
   ·rename_i aj;rw[aj.1];exact yx E v aa
   ·exact(NO fa E v aa).2
  ·simp only;rw[if_neg (λbP=>NQ b x ai bP.1)];exact hw.sep b x ai E
  ·by_cases ao:q=k
   ·subst ao;refine⟨xs++news,?_⟩;simp only[if_true,ad.grow,eo,cl];exact hK
   ·obtain⟨dZ,bF⟩:=hw.oD q aG;refine⟨dZ,?_⟩;simp only[ao,if_false,ad.grow];have cO:m.h1 q≠m.h1 k:=λe=>ao (hw.nY q k aG Z e);refine⟨bF.1,?_⟩;rcases bF.2 with F|⟨cr,q0,cur,aq,mK,HL,r⟩
    ·exact .inl F
    ·refine .inr ⟨cr,q0,cur,aq,mK,?_,r⟩;simp at aq;obtain⟨rfl,rfl⟩:=aq;exact(qY _ (hw.pW aG).2 cO).trans HL
  ·by_cases ao:q=k
   ·subst ao;simp only[if_true,ad.grow,eo,cl]at am ⊢;rw[if_neg (by omega)];rcases aX with⟨fr,_⟩|⟨fr,_⟩
    ·rw[fr];exact hw.ng q Z E (by rw[eo,cl];omega)
    ·rcases aa:m.dF g E with _|v
     ·rfl
     ·have:=hw.pV aa;omega
   ·simp only[ao,if_false,ad.grow]at am ⊢;have cO:m.h1 q≠g:=by
     rcases aX with⟨fr,_⟩|⟨fr,_⟩
     ·rw[fr];exact λe=>ao (hw.nY q k aG Z e)
     ·have:=(hw.pW aG).2;omega
    rw[if_neg (λbP=>cO bP.1)];exact hw.ng q aG E am
  ·by_cases ao:q=k
   ·simp only[ao,if_true];exact NQ b x ai
   ·simp only[ao,if_false];exact hw.mf q aG b x ai
  ·have cO:∀q,q<h.ids->q≠k->m.h1 q≠g:=by
    intro q aG ao;rcases aX with⟨fr,_⟩|⟨fr,_⟩
    ·rw[fr];exact λe=>ao (hw.nY q k aG Z e)
    ·have:=(hw.pW aG).2;omega
   by_cases F:q=k<;>by_cases O:eH=k
   ·omega
   ·simp[F,O]at he;exact absurd he.symm (cO eH qZ O)
   ·simp[F,O]at he;exact absurd he (cO q aG F)
   ·simp[F,O]at he;exact hw.nY q eH aG qZ he
  ·obtain⟨aJ,a1,bf,cv,ez⟩:=hw.e4 D x U;have dB:=hw.sW U;have Ds:g≠D:=by
    rcases aX with⟨fr,_⟩|⟨fr,_⟩
    ·rw[fr];exact cv k Z
    ·omega
   refine⟨aJ,(qY D dB (λe=>cv k Z e.symm)).trans a1,bf,λq aG=>?_,λE=>?_⟩
   ·by_cases ao:q=k
    ·simp only[ao,if_true];exact Ds
    ·simp only[ao,if_false];exact cv q aG
   ·simp only;rw[if_neg λbP=>Ds bP.1.symm];exact ez E
 ·obtain⟨bT,bQ,gL⟩:=HJ;have:=bI.bR (P:=P) (m:={m with dF:=λfa E=>if fa=g/\E<(h.hw k+jG)*S then(xs++news)[E]? else m.dF fa E,h1:=λq=>if q=k then g else m.h1 q,qR:=λq=>if q=k then cap else m.qR q}) (h:=h.grow k (h.hw k+jG)) (j k) e es g 0 cap (λi D=>((xs++news)[i*S+D]?).getD fg) (by rw[cl];exact bQ) (λi aa D U=>by
    rw[cl]at U ⊢;have:=nh (s:=S) aa;rw[i3]at this;simp only[hk];rw[if_pos ⟨trivial,by omega⟩,fz (by omega)];simp) (λi aa D U=>by
    obtain⟨v,v1,cW⟩:=gL i aa D U;rw[v1,pf];exact cW.ext an) (by
    rw[i3];rcases hK.2 with⟨F,O⟩|⟨_,_,_,F,_,_,O,_⟩
    ·simp at F
    ·simp at F;obtain⟨rfl,rfl⟩:=F;exact O) (λq aG=>by
    injection aG with aG;subst aG;exact⟨Z,eo,by simp[ad.grow,i3],λ_=>by simp⟩)
  rw[i3]at this;exact this
 ·have ai:∀q,q<m.base->aV.heap[q]? =w.heap[q]? :=λq aG=>qY q (by have:=hw.size;omega) (by have:=HK.1;omega);rcases aX with⟨_,h3⟩|⟨_,eZ⟩
  ·exact⟨h3.os,h3.tape,h3.output,h3.size,ai⟩
  ·exact⟨eZ.os,eZ.tape,eZ.output,eZ.size,ai⟩
theorem bU.NR(hw:bU P m h w){b:Nat}{es:List (List I)}(ai:h.cell b=j es)(e:aT)(he:m.fY b=e){xs:List bK}{n g cap:Nat}(hK:aV.ownsRow m.base e (P.cellsOf e) (.slice (j ⟨g,0,ab⟩) n cap) n xs)(aX:(g=m.cb b/\g4 (λq=>q=g) w aV)\/(g=w.heap.size/\lT w aV))(cP:List (List I))(HJ:mj P m h (P.cellsOf e) cP xs)(sZ:cP.length=n):∃aR,Ext m h aR ((h.set b ab).push cP)/\bU P aR ((h.set b ab).push cP) aV/\bI P aR ((h.set b ab).push cP) (.bd h.n 0 n e) (.slice (j ⟨g,0,ab⟩) n cap)/\Below m.base w aV:=by
 have an:Ext m h {m with cb:=λq=>if q=h.n then g else m.cb q,fY:=λq=>if q=h.n then e else m.fY q,md:=λq=>if q=h.n then cap*P.cellsOf e else m.md q} ((h.set b ab).push cP):=⟨rfl,by simp[ad.push,ad.set],by simp[ad.push,ad.set],λq aG=>by simp[show q≠h.n by omega],λ_ _ _ h=>h,λk Z=>⟨rfl,bV _,λ_=>⟨rfl,rfl⟩⟩,λ_ _ h=>h⟩;have qP:w.heap.size<=aV.heap.size:=by
  rcases aX with⟨_,h3⟩|⟨_,eZ⟩
  ·exact h3.size
  ·exact eZ.size
 have qY:∀q,q<w.heap.size->q≠m.cb b->aV.heap[q]? =w.heap[q]? :=by
  intro q aG cO;rcases aX with⟨fr,h3⟩|⟨fr,eZ⟩
  ·exact h3.block q aG (λe=>cO (e.trans fr))
  ·exact eZ.block q aG id
 have hL:=(hw.lt b es ai).1;have amR:=hw.below ai;have uj:∀q x,((h.set b ab).push cP).cell q=j x->(q=h.n/\x=cP)\/(q≠h.n/\q≠b/\h.cell q=j x):=by
  intro q x aG;by_cases ao:q=h.n
  ·left;subst ao;simp[ad.push,ad.set]at aG;exact⟨rfl,aG.symm⟩
  ·right;by_cases aq:q=b
   ·simp[ad.push,ad.set,aq]at aG;subst aq;simp[ao]at aG
   ·simp[ad.push,ad.set,ao,aq]at aG;exact⟨ao,aq,aG⟩
 have XY:∃cur,jD aV g e cur/\cur.size=cap*P.cellsOf e/\n<=cap/\cap<=maxLen/\cur.toList.take (n*P.cellsOf e)=xs/\m.base<=g:=by
  rcases hK.2 with⟨F,O⟩|⟨cr,q0,cur,F,O,af,aw,bg,cj,cT⟩
  ·simp at F
  ·simp at F;obtain⟨rfl,rfl⟩:=F;exact⟨cur,af,cj,aw,bg,cT,O⟩
 obtain⟨cur,XZ,nf,NS,i2,yw,NP⟩:=XY;have cO:∀q x,q≠b->h.cell q=j x->m.cb q≠g:=by
  intro q x yF aG;rcases aX with⟨fr,_⟩|⟨fr,_⟩
  ·rw[fr];exact λe=>yF (hw.inj _ _ _ _ aG ai e)
  ·have:=hw.below aG;omega
 have X0:∀E,m.dF g E=ab:=by
  intro E;rcases aX with⟨fr,_⟩|⟨fr,_⟩
  ·rw[fr];exact hw.sep b es ai E
  ·rcases aa:m.dF g E with _|v
   ·rfl
   ·have:=hw.pV aa;omega
 obtain⟨bT,bQ,gL⟩:=HJ;refine⟨_,an,?_,?_,?_⟩
 ·refine⟨ef hw.size qP,λq x aG=>?_,λq x aG=>?_,λq eH x iI aG qZ he=>?_,λfa E v aa=>?_,λq x aG E=>?_,λk Z=>?_,λk Z=>hw.ng k Z,λk Z q x aG=>?_,λk cn Z nn=>hw.nY k cn Z nn,hw.dk.fH hw.size λfa nm bh=>qY fa nm (λe=>by have:=(hw.lt b es ai).2;omega),λD x U=>?_⟩
  ·rcases uj q x aG with⟨rfl,rfl⟩|⟨ao,aq,af⟩
   ·simp[ad.push,ad.set,NP]
   ·have:=hw.lt q x af;simp[ad.push,ad.set,ao];omega
  ·rcases uj q x aG with⟨rfl,rfl⟩|⟨ao,aq,af⟩
   ·refine⟨cur,by simpa using XZ,by simp[nf],by simpa using bQ,?_,λi aa D U=>?_⟩
    ·simp only[if_true];rw[sZ,nf];exact Nat.mul_le_mul_right _ NS
    ·obtain⟨v,v1,cW⟩:=gL i aa D U;refine⟨v,?_,cW.ext an⟩;simp only[if_true];rw[<-yw]at v1;have bh:=(gg.1 v1).1;simp at bh;rw[rW (by omega)]at v1;rw[<-pd];exact v1
   ·obtain⟨cs,a8,bZ,b',du,fk⟩:=hw.live q x af;refine⟨cs,?_,by simpa[ao]using bZ,by simpa[ao]using b',by simpa[ao]using du,λi aa D U=>?_⟩
    ·simp only[ao,if_false];exact(qY _ a8.lt (λe=>aq (hw.inj _ _ _ _ af ai e))).trans a8
    ·obtain⟨v,v1,cW⟩:=fk i aa D U;exact⟨v,by simpa[ao]using v1,cW.ext an⟩
  ·rcases uj q x aG with⟨rfl,rfl⟩|⟨ao,aq,af⟩<;>rcases uj eH iI qZ with⟨rfl,rfl⟩|⟨f1,f2,f3⟩
   ·rfl
   ·simp[f1]at he;exact absurd he.symm (cO _ _ f2 f3)
   ·simp[ao]at he;exact absurd he (cO _ _ aq af)
   ·simp[ao,f1]at he;exact hw.inj _ _ _ _ af f3 he
  ·have nm:fa≠m.cb b:=λe=>by simp only at aa;rw[e,hw.sep b es ai E]at aa;cases aa
   rw[World.cell?_of_block (w:=w) (qY _ (hw.pV aa) nm)];exact hw.dF fa E v aa
  ·rcases uj q x aG with⟨rfl,rfl⟩|⟨ao,aq,af⟩
   ·simp only[if_true];exact X0 E
   ·simp only[ao,if_false];exact hw.sep q x af E
  ·obtain⟨dZ,bF⟩:=hw.oD k Z;refine⟨dZ,bF.1,?_⟩;rcases bF.2 with F|⟨cr,q0,X1,aq,mK,HL,r⟩
   ·exact .inl F
   ·refine .inr ⟨cr,q0,X1,aq,mK,?_,r⟩;simp at aq;obtain⟨rfl,rfl⟩:=aq;exact(qY _ (hw.pW Z).2 (λe=>hw.mf k Z b es ai e.symm)).trans HL
  ·have X2:g≠m.h1 k:=by
    rcases aX with⟨fr,_⟩|⟨fr,_⟩
    ·rw[fr];exact hw.mf k Z b es ai
    ·have:=(hw.pW Z).2;omega
   rcases uj q x aG with⟨rfl,rfl⟩|⟨ao,aq,af⟩
   ·simpa using X2
   ·simp only[ao,if_false];exact hw.mf k Z q x af
  ·obtain⟨aJ,a1,bf,cv,ez⟩:=hw.e4 D x U;have dB:=hw.sW U;have Ds:g≠D:=by
    rcases aX with⟨fr,_⟩|⟨fr,_⟩
    ·rw[fr];exact bf b es ai
    ·omega
   refine⟨aJ,(qY D dB (λe=>bf b es ai e.symm)).trans a1,λq y aG=>?_,cv,ez⟩;rcases uj q y aG with⟨rfl,rfl⟩|⟨ao,aq,af⟩
   ·simpa using Ds
   ·simp only[ao,if_false];exact bf q y af
 ·have:=bI.bd (P:=P) (m:={m with cb:=λq=>if q=h.n then g else m.cb q,fY:=λq=>if q=h.n then e else m.fY q,md:=λq=>if q=h.n then cap*P.cellsOf e else m.md q}) (h:=(h.set b ab).push cP) h.n 0 n e cap (by simp[ad.push,ad.set]) (by simp) (by simp) NS i2;simpa using this
 ·have j':∀q,q<m.base->aV.heap[q]? =w.heap[q]? :=λq aG=>qY q (by have:=hw.size;omega) (by have:=(hw.lt b es ai).2;omega);rcases aX with⟨_,h3⟩|⟨_,eZ⟩
  ·exact⟨h3.os,h3.tape,h3.output,h3.size,j'⟩
  ·exact⟨eZ.os,eZ.tape,eZ.output,eZ.size,j'⟩
theorem X3(gI:nZ P)(hw:bU P m h w)(aL:dp P m h t a.tmps)(ty:aT)(x y:fi)(am:E.op= .call {callee:=.builtin .append,args:= #[x,y],argTypes:=[ty,ty].toArray}){e:aT}(he:i0 P ty=j e)(aN:(jv P e).isSome=Q)(a2:Bool){v:I}(R:fx a2 e (be t x) (be t y) h=j (v,J)):dq P m h a w E v J:=by
 have i3:=pZ he;have nj:=ub gI he;obtain⟨z,aN⟩:=Option.isSome_iff_exists.1 aN;obtain⟨i,wY,aa,s5,hl,av,ah,kt⟩:=vt (m:=m) (h:=h) (w:=w) gI aN;have hz:i.size=P.cellsOf e:=by simp[Program.cellsOf,aa]
 have rR:=gI.small e i (Nw aN) aa;have h4:=gr aL x;have pc:=gr aL y;obtain⟨Dt,rX⟩:∃u,a.eval x=u:=⟨_,rfl⟩;obtain⟨X4,q1⟩:∃u,a.eval y=u:=⟨_,rfl⟩;rw[rX]at h4;rw[q1]at pc;by_cases Du:be t y= .aF
 ·rw[Du]at pc R;cases pc;have kx:∀{A n c},Dt= .slice A n c->n<=c->bI P m h v (.slice A n c)->J=h->dq P m h a w E v J:=by intro A n c F O af aw;subst F;subst aw;exact dq.pure hw (vv ty [ty] x y am rX q1 (XU ty e [ty] i3 (by rw[aa];simp) rfl _ A n c O)) af
  simp only[fx,qL]at R;cases lu:be t x<;>rw[lu]at R h4<;>simp only at R<;>try (cases R;done)
  ·injection R with R;injection R with F O;subst F;cases h4;exact kx rfl (bV _) .aF O.symm
  ·split at R
   ·injection R with R;injection R with F O;subst F;have ph:=h4;cases h4 with
    |me dC dO cap=>exact kx rfl (k4 _) ph O.symm
    |bR id dC es g eO cap ag hle eb qU i1 wT=>exact kx rfl i1 ph O.symm
   ·cases R
  ·split at R
   ·injection R with R;injection R with F O;subst F;have ph:=h4;cases h4 with
    |bd b eO bS dC cap ai oG i1 mL i2=>exact kx rfl mL ph O.symm
   ·cases R
 ·have hd:((iO h e (be t y)).bind λnew=>if new.length=0 then qL e (be t x) h else kr a2 e (be t x) new h)=j (v,J):=by rw[<-R];unfold fx;cases HM:be t y<;>first|rfl|exact absurd HM Du
  clear R;obtain⟨new,NT,R⟩:=c'.1 hd;by_cases k3:new.length=0
  ·rw[if_pos k3]at R;obtain⟨nX,n,c,news,rfl,rfl,fU,sV⟩:=NN hw pc Du NT;rw[k3]at q1 pc;have kx:∀{A n fy},Dt= .slice A n fy->n<=fy->bI P m h v (.slice A n fy)->J=h->dq P m h a w E v J:=by intro A n fy F O af aw;subst F;subst aw;exact dq.pure hw (vv ty [ty] x y am rX q1 (XV ty e [ty] i3 (by rw[aa];simp) rfl _ A n fy O nX c)) af
   simp only[qL]at R;cases lu:be t x<;>rw[lu]at R h4<;>simp only at R<;>try (cases R;done)
   ·injection R with R;injection R with F O;subst F;cases h4;exact kx rfl (bV _) .aF O.symm
   ·split at R
    ·injection R with R;injection R with F O;subst F;have ph:=h4;cases h4 with
     |me dC dO cap=>exact kx rfl (k4 _) ph O.symm
     |bR id dC es g eO cap ag hle eb qU i1 wT=>exact kx rfl i1 ph O.symm
    ·cases R
   ·split at R
    ·injection R with R;injection R with F O;subst F;have ph:=h4;cases h4 with
     |bd b eO bS dC cap ai oG i1 mL i2=>exact kx rfl mL ph O.symm
    ·cases R
  rw[if_neg k3]at R;unfold kr at R;split at R
  ·rename_i aj;obtain⟨a8,bZ,b'⟩:=aj;obtain⟨nX,n,c,news,rfl,rfl,fU,sV⟩:=NN hw pc Du NT;have An:=fU.one nj b';have HN:∀k,k<=1000000->(k+new.length)*i.bytes<=140737488355328:=by intro k Z;have:(k+new.length)*i.bytes<=2000000*100000:=Nat.mul_le_mul (by omega) rR;omega
   have HO:∀k,k<=1000000->k+new.length<=maxLen:=by intro k Z;unfold maxLen;omega
   have X5:be t x= .aF->dq P m h a w E v J:=by
    intro lu;rw[lu]at R h4;simp only at R;cases h4;obtain⟨g,cap,aV,bT,bQ,gL⟩:=HG (P:=P) (w:=w) m.base ty E.type e i wY (P.cellsOf e) i.bytes i3 aa s5 hz rfl (by rw[av]) nj (.slice ab 0 0) 0 [] (World.ownsRow_nil _ _ _ _) nX new.length c (by omega) news fU.1 sV An (HO 0 (by omega)) (HN 0 (by omega)) hw.size;simp only[hk,k5]at bT bQ;rcases gL with⟨F,_⟩|⟨aX,eZ⟩
    ·simp at F
    ·have ib:=vv (aV:=aV) ty [ty] x y am rX q1 bT;obtain⟨bN,bL⟩:=bQ;rcases bL with⟨F,_⟩|⟨cr,q0,cur,F,O,af,aw,bg,cj,cT⟩
     ·simp at F
     ·simp at F;obtain⟨rfl,rfl⟩:=F;have X6:cur.toList.take (new.length*P.cellsOf e)=news:=cT;have vu:∀i (aa:i<new.length) D (U:D<new[i].length),∃v,cur[i*P.cellsOf e+D]? =j v/\bI P m h new[i][D] v:=by intro i aa D U;obtain⟨v,v1,cW⟩:=fU.2.2 i aa D U;rw[<-X6]at v1;have bh:=(gg.1 v1).1;simp at bh;rw[rW (by omega)]at v1;exact⟨v,by rw[<-pd];exact v1,cW⟩
      subst aX;cases a2
      ·simp only[mI,if_false,g5,jH]at R;obtain⟨rfl,rfl⟩:=R;obtain⟨aR,dc,dr,g6⟩:=hw.fresh aV e new cur cap eZ af cj aw bg fU.2.1 vu;exact⟨aR,aV,_,.inl ib,dc,dr,g6,(lT.below eZ).mono hw.size⟩
      ·simp only[if_true,g5,jH]at R;obtain⟨rfl,rfl⟩:=R;obtain⟨aR,dc,dr,g6,fA,g7⟩:=hw.push aV e new cur eZ af (by rw[cj];exact Nat.mul_le_mul_right _ aw) fU.2.1 vu;have ji:=bI.bd (P:=P) (m:=aR) (h:=h.push new) h.n 0 new.length e cap (by simp[ad.push]) fA (by rw[g7,cj,hk]) aw bg;rw[g6,Nat.zero_mul]at ji;exact⟨aR,aV,_,.inl ib,dc,dr,ji,(lT.below eZ).mono hw.size⟩
   have X7:∀k z es,be t x= .bR (j k) z es->dq P m h a w E v J:=by
    intro k z es lu;rw[lu]at R h4;simp only at R;split at R
    ·rename_i jg;obtain⟨rfl,HP,yG⟩:=jg;injection R with R;injection R with c1 cr;subst c1;subst cr;cases h4 with
     |bR id dC es g eO cap ag hle eb qU i1 wT=>
       obtain⟨Z,vw,_,X8⟩:=wT k rfl;obtain⟨rfl,rfl,rfl⟩:=X8 HP.symm;obtain⟨xs,sX⟩:=hw.oD k Z;rw[vw,HP]at sX;have X9:mj P m h (P.cellsOf z) es xs:=XW hw sX hle (λi aa D U=>⟨ag i D,by
        have:=hw.dF _ _ _ (eb i aa D (by rw[<-hle _ (h2 aa)];exact U));rwa [hk]at this,qU i aa D U⟩)
       obtain⟨g,q0,aV,bT,bQ,gL⟩:=HG (P:=P) (w:=w) m.base ty E.type z i wY (P.cellsOf z) i.bytes i3 aa s5 hz rfl (by rw[av]) nj _ es.length xs sX nX new.length c (by omega) news fU.1 sV An (HO _ yG) (HN _ yG) hw.size;have ib:=vv (aV:=aV) ty [ty] x y am rX q1 bT;obtain⟨aR,dc,dr,g6,fA⟩:=bU.grown hw Z (n:=es.length) (jG:=new.length) (xs:=xs) (news:=news) (g:=g) (cap:=q0) (aV:=aV) HP.symm a8 (by rw[vw];exact sX) (by rw[vw];exact nj) (by rw[vw];exact bQ) (by
        rcases gL with⟨bN,bL,_⟩|q
        ·left;simp at bN;exact⟨bN.symm,bL⟩
        ·exact .inr q) (es++new) (by rw[vw];exact X9.append fU) (by simp)
       rw[vw]at g6;exact⟨aR,aV,_,.inl ib,dc,dr,g6,fA⟩
    ·cases R
   have X':∀b eO bS z,be t x= .bd b eO bS z->dq P m h a w E v J:=by
    intro b eO bS z lu;rw[lu]at R h4;simp only at R;split at R
    ·rename_i jg;obtain⟨rfl,rfl,yG⟩:=jg;obtain⟨es,ai,R⟩:=c'.1 R;split at R
     ·rename_i q2;injection R with R;injection R with c1 cr;subst c1;subst cr;cases h4 with
      |bd b eO bS dC cap j' oG i1 mL i2=>
        obtain⟨cs,dh,cC,iL,uk,n1⟩:=hw.live b es ai;rw[oG]at dh iL uk n1;have HQ:cs.size=cap*P.cellsOf z:=by rw[cC,<-i1,hk]
        have wZ:bS*P.cellsOf z<=es.length*P.cellsOf z:=Nat.mul_le_mul_right _ q2;have hK:w.ownsRow m.base z (P.cellsOf z) (.slice (j ⟨m.cb b,0,ab⟩) bS cap) bS (cs.toList.take (bS*P.cellsOf z)):=⟨by simp;omega,.inr ⟨m.cb b,cap,cs,rfl,(hw.lt b es ai).2,dh,mL,i2,HQ,rfl⟩⟩;have HR:mj P m h (P.cellsOf z) (es.take bS) (cs.toList.take (bS*P.cellsOf z)):=by
         have F:mj P m h (P.cellsOf z) es (cs.toList.take (es.length*P.cellsOf z)):=by
          refine⟨by simp;omega,iL,λi aa D U=>?_⟩;obtain⟨v,v1,cW⟩:=n1 i aa D U;have:=nh (s:=P.cellsOf z) aa;have uf:D<P.cellsOf z:=by rw[<-iL _ (h2 aa)];exact U
          exact⟨v,by rw[rW (by omega),pd];exact v1,cW⟩
         have O:=F.take bS q2;rwa [List.take_take,Nat.min_eq_left wZ]at O
        obtain⟨g,q0,aV,bT,bQ,gL⟩:=HG (P:=P) (w:=w) m.base ty E.type z i wY (P.cellsOf z) i.bytes i3 aa s5 hz rfl (by rw[av]) nj _ bS _ hK nX new.length c (by omega) news fU.1 sV An (HO _ yG) (HN _ yG) hw.size;have HS:a.eval x= .slice (j ⟨m.cb b,0,ab⟩) bS cap:=by rw[rX];simp
        have ib:=vv (aV:=aV) ty [ty] x y am HS q1 bT;obtain⟨aR,dc,dr,g6,fA⟩:=bU.NR hw ai z oG (aV:=aV) (g:=g) (cap:=q0) bQ (by
         rcases gL with⟨bN,bL,_⟩|q
         ·left;simp at bN;exact⟨bN.symm,bL⟩
         ·exact .inr q) (es.take bS++new) (HR.append fU) (by simp;omega)
        exact⟨aR,aV,_,.inl ib,dc,dr,g6,fA⟩
     ·cases R
    ·cases R
   cases lu:be t x with
   |aF=>exact X5 lu
   |bR id z es=>
     cases id with
     |some k=>exact X7 k z es lu
     |none=>rw[lu]at R;cases R
   |bd b eO bS z=>exact X' b eO bS z lu
   |_=>rw[lu]at R;cases R
  ·cases R
theorem NU(base:Nat)(t u ty e:aT)(i:TypeInfo)(aL:P.underlying t=j (.slice e))(bH:P.underlying u=j .string)(aa:P.info? e=j i)(aN:i.zero=j (.int .u8 0))(qP:i.size=1)(rR:i.bytes=1)(v:bK)(n:Nat)(xs:List bK)(hK:w.ownsRow base e 1 v n xs)(s:ByteArray)(ug:s.size≠0)(tZ:n+s.size<=maxLen)(wQ:n+s.size<=140737488355328)(wR:base<=w.heap.size):∃g cap aV,(t' #[t,u] ty #[v,.string s]).run P w= .ok (.slice (j ⟨g,0,ab⟩) (n+s.size) cap) aV/\aV.ownsRow base e 1 (.slice (j ⟨g,0,ab⟩) (n+s.size) cap) (n+s.size) (xs++Lib.strCells s)/\((v.ownBlock=j g/\g4 (λk=>k=g) w aV/\∃k,v= .slice (j ⟨g,0,ab⟩) n k)\/(g=w.heap.size/\lT w aV)):=by
 have XR:n+s.size<=9223372036854775807:=by simp only[maxLen]at tZ;omega
 have qX:xs.length=n:=by simpa using hK.1
 have hlen:(xs++Lib.strCells s).length=(n+s.size)*1:=by rw[eP,qX,Lib.strCells_length,Nat.mul_one]
 have grown:∀(eX:Nat),eX<n+s.size->(w.drew.alloc (.cells (xs.toArray++(Lib.strCells s).toArray++Builtin.zeroCells (Value.int .u8 0).cells (grownCap w (n+s.size) eX e - (n+s.size))) e)).ownsRow base e 1 (.slice (j ⟨w.heap.size,0,ab⟩) (n+s.size) (grownCap w (n+s.size) eX e)) (n+s.size) (xs++Lib.strCells s)/\lT w (w.drew.alloc (.cells (xs.toArray++(Lib.strCells s).toArray++Builtin.zeroCells (Value.int .u8 0).cells (grownCap w (n+s.size) eX e - (n+s.size))) e)):=by
  intro eX am;have rQ:=grownCap_ge w (n+s.size) eX e;have wX:grownCap w (n+s.size) eX e<=maxLen:=grownCap_le_maxLen w (n+s.size) eX e tZ;refine⟨⟨hlen,.inr ⟨w.heap.size,_,_,rfl,wR,heap_alloc_new w.drew _,rQ,wX,?_,?_⟩⟩,⟨rfl,rfl,rfl,by simp,λk Z _=>heap_alloc_old w.drew _ Z⟩⟩
  ·have HT:(Value.int IntKind.u8 0).cells.size=1:=rfl;simp only[Array.size_append,List.size_toArray,size_zeroCells,HT,qX,Lib.strCells_length];omega
  ·simp only[Array.toList_append,kv];rw[<-kv,<-hlen];exact List.take_left
 rcases hK.2 with⟨rfl,rfl⟩|⟨g,cap,cur,rfl,HH,aX,tY,wX,nf,yw⟩
 ·have an:xs=[]:=List.eq_nil_of_length_eq_zero qX;subst an;have ah:=run_append_nil_string (P:=P) w t u ty e i (.int .u8 0) aL bH aa aN s (by omega) (by omega) (by rw[rR];omega);have np:=grown 0 (by omega);simp only[hk,k5,Array.empty_append]at np ⊢;have ao:(s.data.map λb=>Value.int .u8 b.toNat)=(Lib.strCells s).toArray:=by apply Array.ext';simp[Lib.strCells]
  rw[ao]at ah;exact⟨_,_,_,ah,np.1,.inr ⟨rfl,np.2⟩⟩
 ·by_cases yE:n+s.size<=cap
  ·have amS:cur.size=cap:=by simpa using nf
   have ah:=Lib.run_append_room_string (P:=P) w t u ty e i aL bH aa qP g n cap cur aX s yE (by omega);refine⟨_,_,_,ah,⟨hlen,.inr ⟨g,cap,_,rfl,HH,setRow_heap w g cur _ e _ aX,yE,wX,?_,?_⟩⟩,.inl ⟨rfl,⟨rfl,rfl,rfl,by simp,λk _ Z=>setRow_other w g k _ Z⟩,⟨_,rfl⟩⟩⟩
   ·simp only[List.size_toArray,eP,List.length_take,List.length_drop,Array.length_toList,Lib.strCells_length];omega
   ·have Hw:cur.toList.take n=xs:=by simpa using yw
    rw[Hw,<-hlen];exact List.take_left
  ·have holds:∀D u,xs[D]? =j u->w.cell? ((⟨g,0,ab⟩:Addr).add D)=j u:=hK.cells (g:=g) rfl;have ah:=Lib.run_append_grow_string (P:=P) w t u ty e i (.int .u8 0) aL bH aa aN ⟨g,0,ab⟩ n cap xs (by rw[qP];simpa using qX) holds s (by omega) (by omega) (by rw[rR];exact growslice_fits (by omega) (by omega));have np:=grown cap (by omega);exact⟨_,_,_,ah,np.1,.inr ⟨rfl,np.2⟩⟩
theorem Ya{e:aT}(h:z9 P e=Q):∃i,P.info? e=j i/\i.zero=j (.int .u8 0)/\i.size=1/\i.bytes=1/\P.cellsOf e=1:=by
 unfold z9 at h;split at h
 ·rename_i i aa;simp only[gS,beq_iff_eq]at h;obtain⟨⟨F,O⟩,af⟩:=h;split at F
  ·rename_i n aN;have:n=0:=by simpa using F
   subst this;exact⟨i,aa,aN,O,af,by simp[Program.cellsOf,aa,O]⟩
  ·cases F
 ·cases h
theorem NV(l:List UInt8):mj P m h 1 (rN l) (Lib.strCells ⟨l.toArray⟩):=by
 refine⟨by simp[Lib.strCells],λr ah=>?_,λi aa D U=>?_⟩
 ·obtain⟨c,_,rfl⟩:=n0.1 ah;rfl
 ·have eb:i<l.length:=by simpa using aa
  have e:(rN l)[i]=[.int .u8 l[i].toNat]:=by simp[rN]
  have p3:D=0:=by rw[e]at U;simpa using U
  subst p3;refine⟨.int .u8 l[i].toNat,by simp[Lib.strCells,eb],?_⟩;simp only[e,List.getElem_cons_zero];exact .int _ _
theorem Yb(h:nc P ty=Q):P.underlying ty=j .string:=by
 unfold nc at h;split at h
 ·assumption
 ·cases h
theorem Yc(ty u e:aT)(p1:P.underlying ty=j (.slice e))(bH:P.underlying u=j .string){i:TypeInfo}(aa:P.info? e=j i)(av:i.size=1)(ui:aT)(A:Option Addr)(n c:Nat)(tY:n<=c):(t' #[ty,u] ui #[.slice A n c,.string ⟨#[]⟩]).run P w= .ok (.slice A n c) w:=by have bc:=Lib.run_firstCells_string (P:=P) w 1 ⟨#[]⟩;have gM:(Lib.strCells ⟨#[]⟩)=[]:=rfl;have ao:(⟨#[]⟩:ByteArray).size=0:=rfl;rw[gM,ao]at bc;cases A<;>simp[t',iz p1,iz bH,sizeOf,typeInfo,aa,av,Builtin.lenOf,tY,bc,ao,storeCells]
theorem Yd(hw:bU P m h w)(aL:dp P m h t a.tmps)(ty vx:aT)(x y:fi)(am:E.op= .call {callee:=.builtin .append,args:= #[x,y],argTypes:=[ty,vx].toArray}){e:aT}(he:i0 P ty=j e)(bH:nc P vx=Q)(hA:z9 P e=Q)(a2:Bool){v:I}(R:z' a2 e (be t x) (be t y) h=j (v,J)):dq P m h a w E v J:=by
 have i3:=pZ he;have yz:=Yb bH;obtain⟨i,aa,aN,k1,oF,ni⟩:=Ya hA;have h4:=gr aL x;have pc:=gr aL y;obtain⟨Dt,rX⟩:∃u,a.eval x=u:=⟨_,rfl⟩;obtain⟨X4,q1⟩:∃u,a.eval y=u:=⟨_,rfl⟩;rw[rX]at h4;rw[q1]at pc;unfold z' at R;split at R
 ·rename_i l HM;rw[HM]at pc;cases pc;split at R
  ·rename_i k3;obtain rfl:=p4.1 k3;have kx:∀{A n fy},Dt= .slice A n fy->n<=fy->bI P m h v (.slice A n fy)->J=h->dq P m h a w E v J:=by intro A n fy F O af aw;subst F;subst aw;exact dq.pure hw (vv ty [vx] x y am rX q1 (Yc ty vx e i3 yz aa k1 _ A n fy O)) af
   simp only[qL]at R;cases lu:be t x<;>rw[lu]at R h4<;>simp only at R<;>try (cases R;done)
   ·injection R with R;injection R with F O;subst F;cases h4;exact kx rfl (bV _) .aF O.symm
   ·split at R
    ·injection R with R;injection R with F O;subst F;have ph:=h4;cases h4 with
     |me dC dO cap=>exact kx rfl (k4 _) ph O.symm
     |bR id dC es g eO cap ag hle eb qU i1 wT=>exact kx rfl i1 ph O.symm
    ·cases R
   ·split at R
    ·injection R with R;injection R with F O;subst F;have ph:=h4;cases h4 with
     |bd b eO bS dC cap ai oG i1 mL i2=>exact kx rfl mL ph O.symm
    ·cases R
  ·rename_i k3;split at R
   ·rename_i amT;have ey:(⟨l.toArray⟩:ByteArray).size=l.length:=Di l;split at R
    ·rename_i lu;rw[lu]at h4;cases h4;split at R
     ·rename_i Dv;injection R with R;injection R with c1 cr;subst c1;subst cr;obtain⟨g,cap,aV,bT,bQ,gL⟩:=NU (P:=P) (w:=w) m.base ty vx E.type e i i3 yz aa aN k1 oF (.slice ab 0 0) 0 [] (World.ownsRow_nil _ _ _ _) ⟨l.toArray⟩ (by rw[ey];exact k3) (by rw[ey];unfold maxLen;omega) (by rw[ey];omega) hw.size;rw[ey]at bT bQ;simp only[hk,k5]at bT bQ;rcases gL with⟨bN,_⟩|⟨aX,eZ⟩
      ·simp at bN
      ·have ib:=vv (aV:=aV) ty [vx] x y am rX q1 bT;obtain⟨bN,bL⟩:=bQ;rcases bL with⟨F,_⟩|⟨cr,q0,cur,F,O,af,aw,bg,cj,cT⟩
       ·simp at F
       ·simp at F;obtain⟨rfl,rfl⟩:=F;have fU:=NV (P:=P) (m:=m) (h:=h) l;have vu:∀i (aa:i<(rN l).length) D (U:D<(rN l)[i].length),∃v,cur[i*P.cellsOf e+D]? =j v/\bI P m h (rN l)[i][D] v:=by intro i aa D U;obtain⟨v,v1,cW⟩:=fU.2.2 i aa D U;rw[<-cT]at v1;have bh:=(gg.1 v1).1;simp at bh;rw[rW (by omega)]at v1;exact⟨v,by rw[ni,<-pd];exact v1,cW⟩
        subst aX;obtain⟨aR,dc,dr,g6,fA,g7⟩:=hw.push aV e (rN l) cur eZ af (by rw[cj,ni];simp;omega) (by rw[ni];exact fU.2.1) vu;have ji:=bI.bd (P:=P) (m:=aR) (h:=h.push (rN l)) h.n 0 l.length e cap (by simp[ad.push]) fA (by rw[g7,cj,hk,ni]) aw bg;rw[g6,Nat.zero_mul]at ji;exact⟨aR,aV,_,.inl ib,dc,dr,ji,(lT.below eZ).mono hw.size⟩
     ·cases R
    ·rename_i b eO bS z lu;rw[lu]at h4;split at R
     ·rename_i jg;obtain⟨rfl,rfl,yG⟩:=jg;obtain⟨es,ai,R⟩:=c'.1 R;split at R
      ·rename_i q2;injection R with R;injection R with c1 cr;subst c1;subst cr;cases h4 with
       |bd b eO bS dC cap j' oG i1 mL i2=>
         obtain⟨cs,dh,cC,iL,uk,n1⟩:=hw.live b es ai;rw[oG,ni]at iL uk n1;rw[oG]at dh;have HQ:cs.size=cap*1:=by rw[cC,<-i1,hk,ni]
         have hK:w.ownsRow m.base z 1 (.slice (j ⟨m.cb b,0,ab⟩) bS cap) bS (cs.toList.take (bS*1)):=⟨by simp;omega,.inr ⟨m.cb b,cap,cs,rfl,(hw.lt b es ai).2,dh,mL,i2,HQ,rfl⟩⟩;have HR:mj P m h 1 (es.take bS) (cs.toList.take (bS*1)):=by
          have F:mj P m h 1 es (cs.toList.take (es.length*1)):=by
           refine⟨by simp;omega,iL,λi aa D U=>?_⟩;obtain⟨v,v1,cW⟩:=n1 i aa D U;have:=nh (s:=1) aa;have uf:D<1:=by rw[<-iL _ (h2 aa)];exact U
           exact⟨v,by rw[rW (by omega),pd];exact v1,cW⟩
          have O:=F.take bS q2;rwa [List.take_take,Nat.min_eq_left (by omega)]at O
         obtain⟨g,q0,aV,bT,bQ,gL⟩:=NU (P:=P) (w:=w) m.base ty vx E.type z i i3 yz aa aN k1 oF _ bS _ hK ⟨l.toArray⟩ (by rw[ey];exact k3) (by rw[ey];unfold maxLen;omega) (by rw[ey];omega) hw.size;rw[ey]at bT bQ;have HS:a.eval x= .slice (j ⟨m.cb b,0,ab⟩) bS cap:=by rw[rX];simp
         have ib:=vv (aV:=aV) ty [vx] x y am HS q1 bT;obtain⟨aR,dc,dr,g6,fA⟩:=bU.NR hw ai z oG (aV:=aV) (g:=g) (cap:=q0) (by rw[ni];exact bQ) (by
          rcases gL with⟨bN,bL,_⟩|q
          ·left;simp at bN;exact⟨bN.symm,bL⟩
          ·exact .inr q) (es.take bS++rN l) (by rw[ni];exact HR.append (NV l)) (by simp;omega)
         exact⟨aR,aV,_,.inl ib,dc,dr,g6,fA⟩
      ·cases R
     ·cases R
    ·cases R
   ·cases R
 ·cases R
end
open Go Go.RowKit
section
variable{P:cp}{m aR:dw}{h J:ad}{w aV:cQ}{t:List I}{a:Act}{E:a0}
theorem Ye(gI:nZ P)(hw:bU P m h w)(aL:dp P m h t a.tmps){v:I}(he:iP P t E=j v):dq P m h a w E v h:=by
 unfold iP at he;split at he
 ·rename_i x am;injection he with F;subst F;exact Np hw aL x (.inl am)
 ·rename_i x am;injection he with F;subst F;exact Np hw aL x (.inr am)
 ·rename_i c x y am;split at he
  ·rename_i b ai;injection he with F;subst F;exact Xj hw aL c x y am ai
  ·cases he
 ·rename_i ty parts am;obtain⟨z,aN,he⟩:=c'.1 he;split at he
  ·rename_i pl ky;split at he
   ·rename_i lV;obtain⟨cs,nf,F⟩:=dd.1 he;subst F;exact NI gI hw aL ty parts am aN (.inl ⟨pl,ky,by simpa using lV,nf⟩)
   ·cases he
  ·obtain⟨q,aG,he⟩:=c'.1 he;split at he
   ·cases he
   ·rename_i Ao;obtain⟨cs,nf,F⟩:=dd.1 he;subst F;exact NI gI hw aL ty parts am aN (.inr ⟨q.1,q.2,aG,Ao,nf⟩)
 ·rename_i x am;split at he<;>first|(cases he;done)|skip
  all_goals
   rename_i an;injection he with F;subst F;exact Xk hw aL x am an rfl
 ·rename_i op ty x y qV am;have an:=gr aL x;have bF:=gr aL y;split at he
  ·rename_i ex ud;rw[ex]at an;rw[ud]at bF;obtain⟨ls,k2⟩:∃u,a.eval x=u:=⟨_,rfl⟩;obtain⟨mi,jV⟩:∃u,a.eval y=u:=⟨_,rfl⟩;rw[k2]at an;rw[jV]at bF;cases an;cases bF;have key:∀c,y= .const c->gR P ty= .iface->∀b,(op= .eql/\b=Q)\/(op= .neq/\b=T)->(eG a.eval E).run P w= .ok (.value (.bool b)) w:=by
    intro c Yf Z b ib;subst Yf;have a6:=Z;unfold gR at a6;split at a6<;>simp at a6;rename_i ms nl;have heq:(Op.equal ty .nilIface .nilIface).run P w= .ok Q w:=by
     have ae:∀d,(Op.equalIn (d+1) ty .nilIface .nilIface).run P w= .ok Q w:=λd=>by simp[Op.equalIn,iz nl]
     exact ae 9999
    have aX:(eqGuard op ty x (.const c) .nilIface .nilIface).run P w= .ok () w:=by rcases ib with⟨rfl,_⟩|⟨rfl,_⟩<;>cases x<;>rfl
    rcases ib with⟨rfl,rfl⟩|⟨rfl,rfl⟩
    ·have ao:binOp .eql ty .nilIface .nilIface=(do pure (.bool (<-Op.equal ty .nilIface .nilIface)):Sem bK):=rfl;simp only[eG,am,k2,jV,hi,aX,hc,ao,heq,ku]
    ·have ao:binOp .neq ty .nilIface .nilIface=(do pure (.bool (!(<-Op.equal ty .nilIface .nilIface))):Sem bK):=rfl;simp only[eG,am,k2,jV,hi,aX,hc,ao,heq,ku];rfl
   split at he
   ·rename_i c Z;injection he with F;subst F;exact dq.pure hw (key _ rfl Z Q (.inl ⟨rfl,rfl⟩)) (.bool _)
   ·rename_i c Z;injection he with F;subst F;exact dq.pure hw (key _ rfl Z T (.inr ⟨rfl,rfl⟩)) (.bool _)
   ·cases he
  ·rename_i xs dZ ex ud;obtain⟨aZ,NW,he⟩:=c'.1 he;split at he
   ·obtain⟨b,ai,F⟩:=dd.1 he;subst F;exact NC hw aL _ ty qV x y am ex ud NW ai (.inl ⟨rfl,rfl⟩)
   ·obtain⟨b,ai,F⟩:=dd.1 he;subst F;exact NC hw aL _ ty qV x y am ex ud NW ai (.inr ⟨rfl,rfl⟩)
   ·cases he
  ·rename_i amU amV;have ah:=he;clear he;obtain⟨ls,k2⟩:∃u,a.eval x=u:=⟨_,rfl⟩;obtain⟨mi,jV⟩:∃u,a.eval y=u:=⟨_,rfl⟩;rw[k2]at an;rw[jV]at bF;generalize be t x=ex at*;generalize be t y=ud at*;unfold dV at ah;split at ah
   ·rename_i k dO cn e5;cases an;cases bF;obtain⟨u,bT,bQ⟩:=Xy (P:=P) (m:=m) (h:=h) (w:=w) op ty k cn dO e5 (gR P ty) ah;exact dq.pure hw (Dj op ty qV x y am k2 jV rfl bT) bQ
   ·rename_i dO e5;cases an;cases bF;obtain⟨u,bT,bQ⟩:=Xz (P:=P) (m:=m) (h:=h) (w:=w) op ty dO e5 (gR P ty) ah;exact dq.pure hw (Dj op ty qV x y am k2 jV rfl bT) bQ
   ·split at ah
    ·obtain⟨b,ai,ah⟩:=dd.1 ah;subst ah;obtain⟨ao,aq,bm⟩:=Nz (w:=w) ty ai an bF;exact dq.pure hw (Dj _ ty qV x y am k2 jV ao aq) (.bool _)
    ·obtain⟨b,ai,ah⟩:=dd.1 ah;subst ah;obtain⟨ao,aq,bm⟩:=Nz (w:=w) ty ai an bF;exact dq.pure hw (Dj _ ty qV x y am k2 jV ao bm) (.bool _)
    ·cases ah
 ·rename_i op ty x am;have bH:=he;exact Xl hw aL op ty x am bH
 ·rename_i src dst x am;split at he
  ·cases he
  ·rename_i au;have bH:=he;exact Xm hw aL src dst x am (by cases av:P.underlying src<;>simp_all) bH
 ·rename_i ty x am;split at he
  ·cases he
  ·rename_i aB;have vy:tS P ty=Q:=by simpa using aB
   split at he
   ·injection he with F;subst F;exact Nr hw aL ty x am vy
   ·split at he
    ·rename_i cs nf;injection he with F;subst F;rw[<-nf];exact Nr hw aL ty x am vy
    ·cases he
 ·rename_i f first captured am
  split at he
  ·rename_i g;injection he with F;subst F;exact Xn hw aL g first captured am
  ·cases he
 ·rename_i ty x hg aa lP am;split at he
  ·cases he
  ·rename_i jg;have bH:=he;simp only[oI,Bool.not_eq_true',not_or,Bool.not_eq_true,Bool.not_eq_false]at jg;obtain⟨a8,bZ⟩:=jg;cases lP with
   |some lP=>simp at a8
   |none=>exact XK gI hw aL ty x hg aa am bZ bH
 ·rename_i s x f am;obtain⟨q,aG,he⟩:=c'.1 he;split at he
  ·cases he
  ·rename_i Ao;have bH:=he;exact Xq hw aL s x f am aG Ao bH
 ·rename_i s x f am;obtain⟨q,aG,he⟩:=c'.1 he;split at he
  ·rename_i cs nf;split at he
   ·cases he
   ·rename_i jg;have bH:=he;exact Xr hw aL s x f am aG (λh=>jg (.inl h)) (by intro au;exact jg (.inr (by simp[au]))) nf bH
  ·cases he
 ·rename_i ty x b8 am;have bH:=he;exact Xs gI hw aL ty x b8 am bH
 ·rename_i ty x b8 am;have bH:=he;exact Xu hw aL ty x b8 am bH
 ·rename_i x Aj aS ok am;split at he
  ·rename_i q bu an;split at he
   ·rename_i aj;obtain⟨a8,bZ⟩:=aj;subst bZ;injection he with F;subst F;exact Xp hw aL x Aj q ok am an a8
   ·cases he
  ·cases he
 ·rename_i x i am;split at he
  ·rename_i br an;have bH:=he;exact Xo hw aL x i am an bH
  ·cases he
 ·rename_i args argTypes am;have w0:∀(l:List fi),args.toList=l->args=l.toArray:=λl al=>by rw[<-al]
  have HU:∀(l:List aT),argTypes.toList=l->argTypes=l.toArray:=λl al=>by rw[<-al]
  split at he
  ·rename_i x ty oH aM p1;obtain rfl:=w0 _ aM;obtain rfl:=HU _ p1;split at he
   ·rename_i bc;obtain⟨n,au,F⟩:=dd.1 he;subst F;exact Xw hw aL x ty oH am bc au
   ·cases he
  ·cases he
 ·rename_i args argTypes am;split at he
  ·rename_i x y aM;obtain rfl:args=[x,y].toArray:=by rw[<-aM]
   exact Ny hw aL T x y _ am rfl rfl he
  ·cases he
 ·rename_i args argTypes am;split at he
  ·rename_i x y aM;obtain rfl:args=[x,y].toArray:=by rw[<-aM]
   exact Ny hw aL Q x y _ am rfl rfl he
  ·cases he
 ·cases he
theorem NX(gI:nZ P)(hw:bU P m h w)(aL:dp P m h t a.tmps)(a2:aT->Bool){v:I}(he:eK P a2 t h E=j (v,J)):dq P m h a w E v J:=by
 unfold eK at he;split at he
 ·rename_i e am;obtain⟨z,aN,he⟩:=dd.1 he;injection he with F O;subst F;subst O;split
  ·exact Xa gI hw e am aN
  ·exact W' gI hw e am aN
 ·rename_i e x am;split at he
  ·rename_i aj;injection he with he;injection he with F O;subst F;subst O;split
   ·exact Xc hw aL e x am aj.1 aj.2
   ·exact Xb hw aL e x am aj.1 aj.2
  ·cases he
 ·rename_i ty len parts am;obtain⟨e,gs,he⟩:=c'.1 he;obtain⟨z,aN,he⟩:=c'.1 he;split at he
  ·rename_i aj;obtain⟨es,i3,he⟩:=dd.1 he;have:=XO gI hw aL ty len parts am gs aN i3 aj;split at he
   ·injection he with F O;subst F;subst O;exact this.1
   ·split at he
    ·injection he with F O;subst F;subst O;exact this.2.2
    ·injection he with F O;subst F;subst O;exact this.2.1
  ·cases he
 ·rename_i ty x am;split at he
  ·cases he
  ·rename_i au;obtain⟨u,bH,he⟩:=dd.1 he;injection he with F O;subst F;subst O;obtain⟨d,a6⟩:=Option.isSome_iff_exists.1 (by cases jV:P.underlying ty<;>simp_all:(P.underlying ty).isSome=Q);obtain⟨i,aa⟩:=Ns a6;exact Xd hw aL ty x am a6 (by rw[aa];simp) bH
 ·rename_i ty x y am;split at he
  ·cases he
  ·rename_i au;obtain⟨O,bB,he⟩:=dd.1 he;injection he with ao aq;subst ao;subst aq;obtain⟨i,aa,_⟩:=pb au;exact Xe hw aL ty x y am (by rw[aa];simp) bB
 ·rename_i ty l c am;split at he
  ·rename_i dc n dr iA al aj;obtain⟨e,gs,he⟩:=c'.1 he;obtain⟨z,aN,he⟩:=c'.1 he;split at he
   ·rename_i jg;obtain⟨a8,bZ,b'⟩:=jg;have q3:be t c= .int dr n:=by rw[aj,<-bZ]
    injection he with he;injection he with F O;subst F;subst O;exact XQ gI hw aL ty l c am gs aN al q3 a8 b'
   ·cases he
  ·cases he
 ·rename_i args argTypes am;have w0:∀(l:List fi),args.toList=l->args=l.toArray:=λl al=>by rw[<-al]
  have HU:∀(l:List aT),argTypes.toList=l->argTypes=l.toArray:=λl al=>by rw[<-al]
  split at he
  ·rename_i x y ty rO aM p1;obtain rfl:=w0 _ aM;obtain rfl:=HU _ p1;split at he
   ·rename_i vw;subst vw;obtain⟨e,gs,he⟩:=c'.1 he;split at he
    ·rename_i aN;exact X3 gI hw aL ty x y am gs aN (a2 ty) he
    ·cases he
   ·split at he
    ·rename_i bB;obtain⟨e,gs,he⟩:=c'.1 he;split at he
     ·rename_i hA;exact Yd hw aL ty rO x y am gs bB hA (a2 ty) he
     ·cases he
    ·cases he
  ·cases he
 ·obtain⟨u,bH,he⟩:=dd.1 he;injection he with F O;subst F;subst O;exact Ye gI hw aL bH
end
end Go.Proofs.Ytkdbjfncchmmpaa
