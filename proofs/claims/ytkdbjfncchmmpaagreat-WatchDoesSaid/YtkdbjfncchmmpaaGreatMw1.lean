/- A plain model of what a call does, without addresses, capacities and orders: values are trees, slices are lists. The evaluation 'runK' of a function's body in it. -/
import Derived.WalkKit
import Derived.WalkSpells
import Derived.Deep.Draws
import Derived.Laws.Rows
import Derived.Maps.AppendAt
import Derived.Deep.AppendLies
import Derived.Laws.ResultCell
import Derived.Lib.LaidTab
import Derived.Lib.ItoaNum
import Derived.Laws.StructEq
import Derived.Laws.CopyRow
import Derived.Lib.SliceRun
import Derived.Laws.Pointers
import Derived.WideLaws
import Derived.Great.FillDense
import Derived.Lib.AppendStr
import Derived.Great.BuildSlice
import Derived.Laws.MakeOwn
import Derived.Laws.OwnMore
set_option linter.unusedSimpArgs false
set_option linter.unusedVariables false
set_option maxHeartbeats 4000000
set_option maxRecDepth 1000000
open List renaming replicate→ap,getElem?_eq_some_iff→fO,getElem?_eq_getElem→fT,length_append→fz,getD→cZ,length_nil→fG,getElem?_append_right→l1,getElem_mem→jl,getElem?_append_left→l0,all_eq_true→jW,append_assoc→kS,getElem?_eq_none→mE,map_cons→kf,nil_append→l3,range→jG,mem_map→nt,length_take→pv,length_eq_zero_iff→sy,mem_append→qV,map_nil→pt,all_cons→qa,getElem?_take_of_lt→v1,getElem?_map→xl
open Nat renaming le_refl→b9,lt_of_lt_of_le→fS,le_trans→e6,zero_add→ir,zero_le→mI,lt_or_ge→oj,le_of_eq→qU,add_assoc→rC
open Go.IntKind renaming i64→j
open Option renaming some→o,none→ag,bind_eq_some_iff→dX,map_eq_some_iff→ed,bind_some→du,map_some→i3,getD_some→qT
open Bool renaming false→U,true→J,and_eq_true→gv,false_eq_true→mF,or_eq_true→o3
open Go renaming TypeId→a9,Oper→bm,Program→c',Value→b',FuncId→di,run_underlying→kg,World→dO,IntKind→gZ,Operand→g7,execOp→f',undef→g0,Code→gu
open Array renaming getElem?_toList→sv
open Option.some renaming injEq→iF,inj→k9
open Go.Result renaming andThen_ok→i2
open Go.Sem renaming run_bind→i',run_pure→mD
open Prod.mk renaming injEq→kW
open Go.Region renaming binds→lF,before→nQ
open BitVec renaming ofInt→lY
open Go.RowKit.Below renaming refl→nq
open Go.Addr renaming add_lit→rA
open Ne renaming symm→mG
open Go.Builtin renaming append_→yE
namespace Go.Proofs.YtkdbjfncchmmpaaGreat
open Go
variable{dI:Bool}{d:TypeDesc}{y:gu}{ca:List bm}{u:b'}{ty:a9}
inductive F where
 |aD
 |bool (b:Bool)
 |int (k:gZ) (n:Int)
 |str (s:List UInt8)
 |e'
 |ptr (b i off:Nat)
 |gM (t:a9) (b:Nat)
 |ip (e:List F) (off:Nat)
 |aJ
 |b5 (id:Option Nat) (el:a9) (es:List (List F))
 |bw (b O n:Nat) (el:a9)
 |fn (f:di) (first captured:List F)
 |oW
 |iZ
 |iface (t:a9) (v:F)
 |agg (cs:List F)
 |bS (bI:List F)
 deriving Inhabited
abbrev JC(n:Int):F:=.int j n
def F.cells:F->List F
 |.agg cs=>cs
 |v=>[v]
def F.one:F->Bool
 |.aD|.agg _|.bS _=>U
 |_=>J
structure ai where
 n:Nat
 cell:Nat->Option (List (List F))
 ids:Nat
 hw:Nat->Nat
def ai.set(h:ai)(b:Nat)(es:Option (List (List F))):ai:={h with cell:=λk=>if k=b then es else h.cell k}
def ai.push(h:ai)(es:List (List F)):ai:={h with n:=h.n+1,cell:=λk=>if k=h.n then o es else h.cell k}
def ai.grow(h:ai)(id m:Nat):ai:={h with hw:=λk=>if k=id then m else h.hw k}
def ai.fresh(h:ai)(m:Nat):ai:={h with ids:=h.ids+1,hw:=λk=>if k=h.ids then m else h.hw k}
def z1:b'->F
 |.bool b=>.bool b
 |.int k n=>.int k n
 |.string s=>.str s.data.toList
 |.pointer ag=>.e'
 |.slice ag 0 0=>.aJ
 |.nilFunc=>.oW
 |.nilIface=>.iZ
 |_=>.aD
def Bs:b'->F
 |.agg cs=>.agg (cs.toList.map z1)
 |v=>z1 v
def bM(t:List F):g7->F
 |.tmp i=>t.getD i .aD
 |.const v=>Bs v
 |.func f=>.fn f [] []
 |.global _=>.aD
def fN(t:List F)(d:Option Tmp)(v:F):List F:=
 match d with
 |some i=>t.set i v
 |none=>t
section
variable(P:c')
def dA(t:a9):Nat:=P.cellsOf t
def k7(t:a9):Bool:=match P.underlying t with
 |some (.struct _)|some (.array ..)=>J
 |_=>U
def lp(t:a9):Option (List F):=if t<P.types.size then(P.info? t).bind λi=>i.zero.map λv=>(Bs v).cells else ag
def ux(t:a9):Option (List (Nat×a9)):=match P.underlying t with
 |some (.struct dN)=>o (dN.toList.map λf=>(f.offset,f.type))
 |_=>ag
def kN(t:a9):Option a9:=if t<P.types.size then match P.underlying t with
 |some (.slice e)=>o e
 |_=>ag else ag
def sp(t:a9):Option (Nat×a9):=match P.underlying t with
 |some (.array n e)=>o (n,e)
 |_=>ag
inductive kO where
 |bool|int (k:gZ)|str|ptr|slice|iface|func|agg|other
def iE(t:a9):kO:=match P.underlying t with
 |some .bool=>.bool
 |some (.int k)=>.int k
 |some .string=>.str
 |some (.pointer _)=>.ptr
 |some (.slice _)=>.slice
 |some (.interface _)=>.iface
 |some (.func ..)=>.func
 |some (.struct _)|some (.array ..)=>.agg
 |_=>.other
end
def p4(P:c')(t:a9):Bool:=match P.underlying t with
 |some .string=>J
 |_=>U
def JD(P:c')(t:a9):Bool:=(kN P t).isSome
def yv(P:c')(t:a9):Bool:=match P.underlying t with
 |some (.interface _)=>U
 |some _=>J
 |none=>U
def yw(P:c')(t:a9):F->Bool
 |.str _=>p4 P t
 |.b5 _ el _=>kN P t==o el
 |.bw _ _ _ el=>kN P t==o el
 |.aJ=>JD P t
 |_=>U
def fZ(agg:Bool)(n:Nat)(e:List F)(off:Nat):Option F:=
 if agg then(if off+n<=e.length then o (.agg ((e.drop off).take n))else ag)else e[off]?
def dy(e:List F)(off:Nat)(cs:List F):List F:=e.take off++cs++e.drop (off+cs.length)
def ai.row(h:ai)(b i:Nat):Option (List F):=(h.cell b).bind (·[i]?)
def cR(agg:Bool)(n:Nat)(h:ai):F->Option F
 |.ptr b i off=>(h.row b i).bind λe=>fZ agg n e off
 |.gM _ b=>(h.row b 0).bind λe=>fZ agg n e 0
 |.ip e off=>fZ agg n e off
 |_=>ag
def e0(n:Nat)(h:ai)(a x:F):Option ai:=
 match a with
 |.ptr b i off=>(h.cell b).bind λes=>(es[i]?).bind λe=>if x.cells.all F.one/\x.cells.length=n/\off+n<=e.length then o (h.set b (o (es.set i (dy e off x.cells))))else ag
 |.gM _ b=>(h.cell b).bind λes=>(es[0]?).bind λe=>if x.cells.all F.one/\x.cells.length=n/\0+n<=e.length then o (h.set b (o (es.set 0 (dy e 0 x.cells))))else ag
 |_=>ag
def qL:List (Nat×Nat)->List F->List (Nat×F)->Option (List F)
 |_,cs,[]=>o cs
 |pl,cs,(i,v)::r=>match pl[i]? with
   |some (off,size)=>if v.cells.length=size/\off+size<=cs.length/\v.cells.all F.one then qL pl (dy cs off v.cells) r else ag
   |none=>ag
def qM:Nat->List (List F)->List (Nat×F)->Option (List (List F))
 |_,es,[]=>o es
 |e4,es,(i,v)::r=>if v.cells.length=e4/\i<es.length/\v.cells.all F.one then qM e4 (es.set i v.cells) r else ag
def p5(op:BinOp)(k:gZ)(a b:Int):Option F:=
 match op with
 |.add=>o (.int k (k.wrap (a+b)))
 |.sub=>o (.int k (k.wrap (a - b)))
 |.mul=>o (.int k (k.wrap (a*b)))
 |.eql=>o (.bool (a==b))
 |.neq=>o (.bool (a != b))
 |.lss=>o (.bool (a<b))
 |.leq=>o (.bool (a<=b))
 |.gtr=>o (.bool (a>b))
 |.geq=>o (.bool (a>=b))
 |.and=>o (.int k (k.wrap (lY k.bits a&&& lY k.bits b).toNat))
 |.or=>o (.int k (k.wrap (lY k.bits a|||lY k.bits b).toNat))
 |.andNot=>o (.int k (k.wrap (lY k.bits a&&& ~~~(lY k.bits b)).toNat))
 |.rem=>if b=0 then ag else o (.int k (a.tmod b))
 |_=>ag
def pr:kO->F->F->Option Bool
 |.bool,.bool a,.bool b=>o (a==b)
 |.ptr,.e',.e'=>o J
 |.ptr,.e',.ptr .. =>o U
 |.ptr,.e',.ip .. =>o U
 |.ptr,.e',.gM .. =>o U
 |.ptr,.gM ..,.e'=>o U
 |.ptr,.ptr ..,.e'=>o U
 |.ptr,.ip ..,.e'=>o U
 |.slice,.aJ,.aJ=>o J
 |.slice,.b5 ..,.aJ=>o U
 |.slice,.bw ..,.aJ=>o U
 |.slice,.aJ,.b5 .. =>o U
 |.slice,.aJ,.bw .. =>o U
 |.func,.oW,.oW=>o J
 |.func,.fn ..,.oW=>o U
 |.func,.oW,.fn .. =>o U
 |.iface,.iface ..,.iZ=>o U
 |.iface,.iZ,.iface .. =>o U
 |_,_,_=>ag
def eO(fj:kO)(op:BinOp)(x y:F):Option F:=
 match x,y with
 |.int k a,.int ee b=>
   match op with
   |.shl=>if b<0 then ag else o (.int k (k.wrap (a*2 ^ min b.toNat k.bits)))
   |.shr=>if b<0 then ag else o (.int k (a.fdiv (2 ^ min b.toNat k.bits)))
   |_=>if k=ee then p5 op k a b else ag
 |.str a,.str b=>match op with
   |.add=>if a.length+b.length<=1000000000000 then o (.str (a++b))else ag
   |.eql=>o (.bool (a==b))
   |.neq=>o (.bool (a != b))
   |_=>ag
 |x,y=>match op with
   |.eql=>(pr fj x y).map .bool
   |.neq=>(pr fj x y).map λb=>.bool !b
   |_=>ag
def uy:List kO->List F->List F->Option Bool
 |[],[],[]=>o J
 |.int _::aQ,.int k a::xs,.int ee b::eG=>if k=ee then(uy aQ xs eG).map λr=>(a==b)&&r else ag
 |.bool::aQ,.bool a::xs,.bool b::eG=>(uy aQ xs eG).map λr=>(a==b)&&r
 |.str::aQ,.str a::xs,.str b::eG=>(uy aQ xs eG).map λr=>(a==b)&&r
 |_,_,_=>ag
def xc(P:c')(t:a9):Option (List kO):=match P.underlying t with
 |some (.struct dN)=>if !P.stoodInHeld t&& !P.eqGuardType P.depth t&&(dN.toList.zipIdx.all λ(f,i)=>f.name != "_"&&f.offset==i&&P.cellsOf f.type==1)then o (dN.toList.map λf=>iE P f.type)else ag
 |_=>ag
def gz(t:List F)(O:bm):Option (di×List F):=
 match O.op with
 |.call {callee:=.value f,args,..}=>match bM t f with
   |.fn g first captured=>o (g,first++args.toList.map (bM t)++captured)
   |_=>ag
 |_=>ag
def hX:F->Option Nat
 |.aJ=>o 0
 |.b5 _ _ es=>o es.length
 |.bw _ _ n _=>o n
 |.str s=>o s.length
 |_=>ag
def js(h:ai)(e4:a9):F->Option (List (List F))
 |.aJ=>o []
 |.b5 _ z es=>if z=e4 then o es else ag
 |.bw b O n z=>if z=e4 then(h.cell b).bind λes=>if O+n<=es.length then o ((es.drop O).take n)else ag else ag
 |_=>ag
def uz(el:a9)(s:F)(h:ai):Option (F×ai):=match s with
 |.aJ=>o (.aJ,h)
 |.b5 id z es=>if z=el then o (.b5 id z es,h)else ag
 |.bw b O n z=>if z=el then o (.bw b O n z,h)else ag
 |_=>ag
def kA(bh:Bool)(el:a9)(s:F)(new:List (List F))(h:ai):Option (F×ai):=
 if 0<new.length/\new.length<=1000000/\new.all (·.all F.one)then
  match s with
  |.aJ=>if bh then o (.bw h.n 0 new.length el,h.push new)else o (.b5 (o h.ids) el new,h.fresh new.length)
  |.b5 (o k) z es=>if z=el/\h.hw k=es.length/\es.length<=1000000 then o (.b5 (o k) el (es++new),h.grow k (es.length+new.length))else ag
  |.bw b O n z=>if z=el/\O=0/\n<=1000000 then
    (h.cell b).bind λes=>if n<=es.length then o (.bw h.n 0 (n+new.length) el,(h.set b ag).push (es.take n++new))else ag
    else ag
  |_=>ag
 else ag
def eH(bh:Bool)(el:a9)(s x:F)(h:ai):Option (F×ai):=
 match x with
 |.aJ=>uz el s h
 |x=>(js h el x).bind λnew=>if new.length=0 then uz el s h else kA bh el s new h
abbrev vR(l:List UInt8):List (List F):=l.map λc=>[.int .u8 c.toNat]
def FK(P:c')(e:a9):Bool:=match P.info? e with
 |some i=>(match i.zero with|some (.int .u8 n)=>n==0|_=>U)&&i.size==1&&i.bytes==1
 |none=>U
def FL(bh:Bool)(el:a9)(s x:F)(h:ai):Option (F×ai):=
 match x with
 |.str l=>if l.length=0 then uz el s h else if l.length<=1000000000 then(match s with
   |.aJ=>if bh then o (.bw h.n 0 l.length el,h.push (vR l))else ag
   |.bw b O n z=>if z=el/\O=0/\n<=1000000000 then
     (h.cell b).bind λes=>if n<=es.length then o (.bw h.n 0 (n+l.length) el,(h.set b ag).push (es.take n++vR l))else ag
     else ag
   |_=>ag)else ag
 |_=>ag
def vS:Option F->Option Int
 |none=>o 0
 |some (.int _ l)=>o l
 |_=>ag
def xd(n:Nat):Option F->Option Int
 |none=>o n
 |some (.int _ r)=>o r
 |_=>ag
def ti(x:F)(l r:Int):Option F:=
 match x with
 |.str s=>o (.str ((s.drop l.toNat).take (r.toNat - l.toNat)))
 |.b5 _ z es=>o (.b5 ag z ((es.drop l.toNat).take (r.toNat - l.toNat)))
 |.aJ=>o .aJ
 |.bw b O _ z=>if l=0 then o (.bw b O r.toNat z)else ag
 |_=>ag
def ru(x:F)(iP af:Option F):Option F:=(vS iP).bind λl=>(hX x).bind λn=>(xd n af).bind λr=>if 0<=l/\l<=r/\r<=n then ti x l r else ag
def Bt(op:UnOp)(x:F):Option F:=
 match op,x with
 |.not,.bool b=>o (.bool !b)
 |.neg,.int k n=>o (.int k (k.wrap (0 - n)))
 |_,_=>ag
def z2(fj:kO)(x:F):Option F:=
 match fj,x with
 |.int k,.int _ n=>o (.int k (k.wrap n))
 |.str,.str s=>o (.str s)
 |_,_=>ag
def z3(od:Bool):F->F->Option F
 |.int k a,.int _ b=>o (.int k (if od then(if b>a then b else a)else(if b<a then b else a)))
 |_,_=>ag
def cd(off:Nat):F->Option F
 |.ptr b i O=>o (.ptr b i (O+off))
 |.gM t b=>o (if off=0 then .gM t b else .ptr b 0 off)
 |.ip e O=>o (.ip e (O+off))
 |_=>ag
def rv(P:c')(ty:a9)(x k:F):Option F:=
 match x,k with
 |.b5 _ el es,.int _ k=>if kN P ty=o el/\0<=k then(es[k.toNat]?).map λe=>.ip e 0 else ag
 |.bw b O n el,.int _ k=>if kN P ty=o el/\0<=k/\k<n then o (.ptr b (O+k.toNat) 0)else ag
 |.ptr b i off,.int _ k=>(sp P ty).bind λq=>if dA P q.2≠0/\0<=k/\k<q.1 then o (.ptr b i (off+k.toNat*dA P q.2))else ag
 |.ip e off,.int _ k=>(sp P ty).bind λq=>if dA P q.2≠0/\0<=k/\k<q.1 then o (.ip e (off+k.toNat*dA P q.2))else ag
 |_,_=>ag
def yx(P:c')(ty:a9)(x k:F):Option F:=
 match x,k with
 |.str s,.int _ k=>if p4 P ty=J/\0<=k then(s[k.toNat]?).map λc=>.int .u8 c.toNat else ag
 |.agg cs,.int _ k=>(sp P ty).bind λq=>if(P.underlying q.2).isSome/\dA P q.2≠0/\0<=k/\k<q.1 then fZ (k7 P q.2) (dA P q.2) cs (k.toNat*dA P q.2)else ag
 |_,_=>ag
def kB(P:c')(t:List F)(O:bm):Option F:=
 match O.op with
 |.move x=>o (bM t x)
 |.assign x=>o (bM t x)
 |.pick c a b=>match bM t c with
   |.bool v=>o (if v then bM t a else bM t b)
   |_=>ag
 |.build ty parts=>(lp P ty).bind λz=>match ux P ty with
   |some pl=>if pl.all (λq=>dA P q.2 != 0)then(qL (pl.map λq=>(q.1,dA P q.2)) z (parts.toList.map λq=>(q.1,bM t q.2))).map .agg else ag
   |none=>(sp P ty).bind λq=>if dA P q.2=0 then ag else(qL ((jG q.1).map λi=>(i*dA P q.2,dA P q.2)) z (parts.toList.map λq=>(q.1,bM t q.2))).map .agg
 |.nilCheck x=>match bM t x with
   |.ptr b i off=>o (.ptr b i off)
   |.gM t b=>o (.gM t b)
   |.ip e off=>o (.ip e off)
   |.fn f a c=>o (.fn f a c)
   |.iface q v=>o (.iface q v)
   |_=>ag
 |.binOp op ty x y _=>match bM t x,bM t y with
   |.iZ,.iZ=>match iE P ty,y,op with
     |.iface,.const _,.eql=>o (.bool J)
     |.iface,.const _,.neq=>o (.bool U)
     |_,_,_=>ag
   |.agg xs,.agg eG=>(xc P ty).bind λaQ=>match op with
     |.eql=>(uy aQ xs eG).map λb=>.bool b
     |.neq=>(uy aQ xs eG).map λb=>.bool !b
     |_=>ag
   |a,b=>eO (iE P ty) op a b
 |.unOp op _ x=>Bt op (bM t x)
 |.convert src dst x=>if(P.underlying src).isNone then ag else z2 (iE P dst) (bM t x)
 |.makeInterface ty x=>if yv P ty=U then ag else if(bM t x).one then o (.iface ty (bM t x))else match bM t x with
   |.agg cs=>o (.iface ty (.agg cs))
   |_=>ag
 |.makeFunc f first captured=>match f with
   |.func g=>o (.fn g (first.toList.map (bM t)) (captured.toList.map (bM t)))
   |_=>ag
 |.slice ty x iP af od=>if od.isSome|| !yw P ty (bM t x)then ag else ru (bM t x) (iP.map (bM t)) (af.map (bM t))
 |.fieldAddr s x f=>((ux P s).bind (·[f]?)).bind λq=>if dA P q.2=0 then ag else cd q.1 (bM t x)
 |.field s x f=>((ux P s).bind (·[f]?)).bind λq=>match bM t x with
   |.agg cs=>if dA P q.2=0\/(P.underlying q.2).isNone then ag else fZ (k7 P q.2) (dA P q.2) cs q.1
   |_=>ag
 |.indexAddr ty x bJ=>rv P ty (bM t x) (bM t bJ)
 |.index ty x bJ=>yx P ty (bM t x) (bM t bJ)
 |.typeAssert x _ aS ok=>match bM t x with
   |.iface q v=>if yv P aS=J/\q=aS then o (if ok then .bS [v,.bool J]else v)else ag
   |_=>ag
 |.extract x i=>match bM t x with
   |.bS bI=>bI[i]?
   |_=>ag
 |.call {callee:=.builtin .len,args,argTypes}=>match args.toList,argTypes.toList with
   |[x],ty::_=>if yw P ty (bM t x)then(hX (bM t x)).map λ(n:Nat)=>JC n else ag
   |_,_=>ag
 |.call {callee:=.builtin .min,args,..}=>match args.toList with
   |[x,y]=>z3 U (bM t x) (bM t y)
   |_=>ag
 |.call {callee:=.builtin .max,args,..}=>match args.toList with
   |[x,y]=>z3 J (bM t x) (bM t y)
   |_=>ag
 |_=>ag
def gk(P:c')(bh:a9->Bool)(t:List F)(h:ai)(O:bm):Option (F×ai):=
 match O.op with
 |.alloc e=>(lp P e).map λz=>(if bh e then .gM e h.n else .ptr h.n 0 0,h.push [z])
 |.box e x=>if(bM t x).cells.all F.one/\(bM t x).cells.length=dA P e then o (if bh e then .gM e h.n else .ptr h.n 0 0,h.push [(bM t x).cells])else ag
 |.buildSlice ty len parts=>(kN P ty).bind λe=>(lp P e).bind λz=>if len*dA P e<=16777216 then
   (qM (dA P e) (ap len z) (parts.toList.map λq=>(q.1,bM t q.2))).map λes=>
    if bh ty then(.bw h.n 0 len e,h.push es)else if bh (ty+1000000)then(.b5 ag e es,h)else(.b5 (o h.ids) e es,h.fresh len)
   else ag
 |.load ty a=>if(P.underlying ty).isNone then ag else(cR (k7 P ty) (dA P ty) h (bM t a)).map λv=>(v,h)
 |.store ty a x=>if dA P ty=0 then ag else(e0 (dA P ty) h (bM t a) (bM t x)).map λE=>(.aD,E)
 |.makeSlice ty l c=>match bM t l,bM t c with
   |.int _ n,.int _ m=>(kN P ty).bind λe=>(lp P e).bind λz=>if 0<=n/\n=m/\n<=100000 then o (.bw h.n 0 n.toNat e,h.push (ap n.toNat z))else ag
   |_,_=>ag
 |.call {callee:=.builtin .append,args,argTypes}=>match args.toList,argTypes.toList with
   |[x,y],[ty,vT]=>if ty=vT then(kN P ty).bind λe=>if(lp P e).isSome then eH (bh ty) e (bM t x) (bM t y) h else ag else if p4 P vT then(kN P ty).bind λe=>if FK P e then FL (bh ty) e (bM t x) (bM t y) h else ag else ag
   |_,_=>ag
 |_=>(kB P t O).map λv=>(v,h)
def oe(t:List F)(O:bm):Option F:=
 match O.op with
 |.panic x=>match bM t x with
   |.iface q v=>o (.iface q v)
   |_=>ag
 |_=>ag
def jk(ops:Array bm)(t:List F)(O:bm):Option Bool:=
 match O.guard with
 |none=>o J
 |some (D,want)=>match(ops[D]?).bind (·.dst)with
   |some d=>match t.getD d .aD with
     |.bool b=>o (if want then b else !b)
     |.bS _=>o U
     |_=>ag
   |none=>ag
inductive jt where
 |code (c:gu)
 |inBlock (id:Nat)
 |inLoop (c:gu)
 |ops (draw:Bool) (all:Array bm) (l:List (bm×List bm))
 |halt (K:List Item)
def ps(id:Nat):List jt->Option (List jt)
 |[]=>ag
 |.inBlock i::k=>if i=id then o k else ps id k
 |.halt _::_=>ag
 |_::k=>ps id k
inductive k8 where
 |ret
 |panic (v:F)
 |halt (K:List Item)
def rx(P:c')(t:List F)(h:ai):List ResultVar->Option (List F)
 |[]=>o []
 |.tmp i::rs=>(rx P t h rs).map λl=>t.getD i .aD::l
 |.cell i ty::rs=>if(P.underlying ty).isNone then ag else(cR (k7 P ty) (dA P ty) h (t.getD i .aD)).bind λv=>(rx P t h rs).map λl=>v::l
def ju:List F->F
 |[v]=>v
 |bI=>.bS bI
def ry(fn:Func)(t:List F)(h:ai)(P:c'):Option F:=(rx P t h fn.results.toList).map ju
def og(O:bm):Bool:=match O.op with
 |.alloc _|.box .. |.buildSlice .. |.store .. |.makeSlice .. |.panic _=>U
 |.call {callee:=.builtin .append,..}=>U
 |.call {callee:=.value _,..}=>U
 |_=>J
def uA(O:bm):Bool:=match O.op with
 |.load .. =>J
 |_=>U
def mB(M:Array Nat)(i D:Nat):Bool:=(M.getD D 0).testBit i
def DA(ops:Array bm)(M:Array Nat):Bool:=(jG ops.size).all λD=>(jG ops.size).all λi=> !mB M i D||((ops[D]?).any λO=>O.after.any λe=>lF .any e&&decide (e.on<D)&&(e.on==i||mB M i e.on))
def vU(dd:a9->Bool)(O:bm):Bool:=match O.op,O.guard,O.dst with
 |.alloc e,ag,o _=>dd e&&decide (e<2000000)
 |_,_,_=>U
def uB(dd:a9->Bool)(O:bm):Bool:=og O||(match O.op with|.buildSlice ty _ _=>dd (ty+2000000)|_=>U)
def JE(dd:a9->Bool)(ops:Array bm)(M:Array Nat)(x y:Nat×List Nat):Bool:=
 let ef:=ops.getD x.1 default;let z4:=ops.getD y.1 default
 x.1 != y.1&&
 !(ef.after.any λe=>lF .any e&&e.on==y.1)&& !mB M y.1 x.1&&
 (uB dd ef||vU dd z4||mB M x.1 y.1)&&
 (uB dd z4|| !uA ef||mB M x.1 y.1||y.2.contains x.1)&&
 (match z4.dst with|some d=> !(ef.looksAt ops).contains d&&ef.dst != o d|none=>J)&&
 (match ef.dst with|some d=> !(z4.looksAt ops).contains d||mB M x.1 y.1|none=>J)
def FM(dd:a9->Bool)(ops:Array bm)(M:Array Nat):List (Nat×List Nat)->Bool
 |[]=>J
 |x::r=>r.all (JE dd ops M x)&&FM dd ops M r
def OU(dd:a9->Bool)(ops:Array bm)(pl:List (Nat×List Nat)):Bool:=
 let M:=nQ ops
 (jG ops.size).all (λi=>pl.any λq=>q.1==i)&&pl.all (λq=>decide (q.1<ops.size)&&(let O:=ops.getD q.1 default
  (match O.dst with|some d=> !(O.looksAt ops).contains d|none=>J)&&(!og O||q.2.isEmpty)&&(match O.op with|.select .. =>U|_=>J)&&q.2.all λi=>decide (i<ops.size)))&&
 ((jG ops.size).all λD=>(ops.getD D default).after.all λe=> !lF .any e||decide (e.on<D))&&
 DA ops M&&FM dd ops M pl
def OV(dD:List (Nat×Nat))(ops:Array bm)(M:Array Nat)(x y:Nat×List Nat):Bool:=
 let ef:=ops.getD x.1 default;let z4:=ops.getD y.1 default;let p:=mB M x.1 y.1||dD.contains (x.1,y.1)
 x.1 != y.1&&(og ef||p)&&(og z4|| !uA ef||p||y.2.contains x.1)&&
 (match z4.dst with|some d=> !(ef.looksAt ops).contains d&&ef.dst != o d|none=>J)&&
 (match ef.dst with|some d=> !(z4.looksAt ops).contains d||p|none=>J)
def yy(dD:List (Nat×Nat))(ops:Array bm)(pl:List (Nat×List Nat)):Bool:=
 let M:=nQ ops
 (jG ops.size).all (λi=>pl.any λq=>q.1==i)&&pl.all (λq=>decide (q.1<ops.size))&&pl.all (λq=>let O:=ops.getD q.1 default
  (match O.dst with|some d=> !(O.looksAt ops).contains d|none=>J))&&
 ((jG ops.size).all λD=>(ops.getD D default).after.all λe=> !lF .any e||decide (e.on<D))&&
 DA ops M&&((jG pl.length).all λD=>(jG D).all λi=>OV dD ops M (pl.getD i default) (pl.getD D default))
def tj(O:bm):Bool:=match O.op,O.guard,O.dst with
 |.store ..,ag,ag=>J
 |_,_,_=>U
def OW(ops:Array bm)(pl:List (Nat×List Nat)):Bool:=match pl.reverse with
 |(y,[kP])::(x,[])::r=>kP==x&&x != y&&tj (ops.getD x default)&&tj (ops.getD y default)&&yy [(x,y)] ops (r.reverse++[(x,[]),(y,[])])&&yy [(y,x)] ops (r.reverse++[(y,[]),(x,[])])
 |_=>U
def JF(n:Nat)(dd:a9->Bool)(ops:Array bm)(pl:List (Nat×List Nat)):Bool:=
 let M:=nQ ops
 pl.length==n&&(jG n).all (λi=>pl.any λq=>q.1==i)&&pl.all (λq=>decide (q.1<n))&&pl.all (λq=>let O:=ops.getD q.1 default
  (match O.dst with|some d=> !(O.looksAt ops).contains d|none=>J))&&
 ((jG ops.size).all λD=>(ops.getD D default).after.all λe=> !lF .any e||decide (e.on<D))&&
 DA ops M&&FM dd ops M pl
def OX(dd:a9->Bool)(ops:Array bm)(pl:List (Nat×List Nat)):Bool:=match pl.reverse with
 |(y,[])::r=>y+1==ops.size&&(jG y).all (λi=>mB (nQ ops) i y)&&JF y dd ops r.reverse
 |_=>U
def z5(S:Nat->Bool)(ops:Array bm):Bool:=ops.toList.all λO=>match O.dst with|some d=> !S d|none=>J
def FN(S:Nat->Bool)(e:a9):Bool:=S (1000000+e)
def i9(pl:Nat->List (Nat×List Nat))(S:Nat->Bool):gu->Bool
 |.region id ops d=> !d||((OU (FN S) ops (pl id)||OW ops (pl id)||OX (FN S) ops (pl id))&&z5 S ops)
 |.seq a b=>i9 pl S a&&i9 pl S b
 |.cond _ a b=>i9 pl S a&&i9 pl S b
 |.block _ b=>i9 pl S b
 |.loop b=>i9 pl S b
 |_=>J
structure iQ where
 ext:di->Option (List F->ai->Option ((F⊕F)×ai))
 bh:di->a9->Bool
 aZ:di->Nat
 cM:di->Nat->List (Nat×List Nat)
 use:di->Bool
 pure:di->Bool
 fy:di->Nat->Bool
mutual
def dl:F->Option F
 |.b5 _ z es=>(rz es).map (.b5 ag z)
 |.agg cs=>(p6 cs).map .agg
 |.bS bI=>(p6 bI).map .bS
 |.iface t v=>(dl v).map (.iface t)
 |.ip _ _|.ptr _ _ _|.gM _ _|.bw _ _ _ _|.fn _ _ _=>ag
 |.aD=>o .aD
 |.bool b=>o (.bool b)
 |.int k n=>o (.int k n)
 |.str s=>o (.str s)
 |.e'=>o .e'
 |.aJ=>o .aJ
 |.oW=>o .oW
 |.iZ=>o .iZ
def p6:List F->Option (List F)
 |[]=>o []
 |v::l=>match dl v,p6 l with
   |some v,o l=>o (v::l)
   |_,_=>ag
def rz:List (List F)->Option (List (List F))
 |[]=>o []
 |v::l=>match p6 v,rz l with
   |some v,o l=>o (v::l)
   |_,_=>ag
end
structure aG(h E:ai):Prop where
 n:h.n<=E.n
 ids:h.ids<=E.ids
 cell:∀b,b<h.n->E.cell b=h.cell b
 hw:∀k,k<h.ids->E.hw k=h.hw k
open Classical in
noncomputable def oh(p:Bool)(h:ai)(q:(F⊕F)×ai):Option ((F⊕F)×ai):=
 if p=J then(if aG h q.2 then(match q.1 with
  |.inl v=>(dl v).map λv=>(.inl v,h)
  |.inr v=>(dl v).map λv=>(.inr v,h))else ag)else o q
def qN(P:c')(all:Array bm)(t:List F)(h:ai):List bm->Prop
 |[]=>True
 |O::r=>(match jk all t O with
    |some J=>(match O.op,O.dst with
      |.load ty a,o d=>cR (k7 P ty) (dA P ty) h (bM t a)=o (t.getD d .aD)
      |.store ty a x,ag=>cR (k7 P ty) (dA P ty) h (bM t a)=o (bM t x)
      |_,_=>False)
    |_=>True)/\qN P all t h r
def jT(draw:Bool)(ops:Array bm)(pl:List (Nat×List Nat)):List (bm×List bm):=
 if draw then pl.map λq=>(ops.getD q.1 default,q.2.map λi=>ops.getD i default)else ops.toList.map λO=>(O,[])
def b2(n:Nat)(t:List F):List F:=t.take n++ap (t.length - n) .aD
def DB(P:c')(fn:Func)(r:k8×List F×ai):Option ((F⊕F)×ai):=match r.1 with
 |.ret=>(ry fn r.2.1 r.2.2 P).map λv=>(.inl v,r.2.2)
 |.panic v=>o (.inr v,r.2.2)
 |.halt _=>ag
open Classical in
noncomputable def dW(P:c')(aa:iQ)(f:di)(k:List jt)(t:List F)(h:ai):Option (k8×List F×ai):=
 match k with
 |[]=>o (.ret,t,h)
 |.inBlock _::k=>dW P aa f k t h
 |.halt K::_=>o (.halt K,t,h)
 |.inLoop c::k=>dW P aa f (.code c::.inLoop c::k) (b2 (aa.aZ f) t) h
 |.ops _ _ []::k=>dW P aa f k t h
 |.ops dI all ((O,ca)::l)::k=>
   match jk all t O with
   |none=>ag
   |some U=>dW P aa f (.ops dI all l::k) (fN t O.dst (.bS [])) h
   |some J=>
    match oe t O with
    |some v=>o (.panic v,t,h)
    |none=>
     match gz t O with
     |some (g,args)=>
       match aa.ext g with
       |some ah=>ah args h>>= λr=>match r.1 with
         |.inl v=>if qN P all (fN t O.dst v) r.2 ca then dW P aa f (.ops dI all l::k) (fN t O.dst v) r.2 else ag
         |.inr v=>o (.panic v,t,r.2)
       |none=>match P.funcs[g]? with
         |none=>ag
         |some fn=>match fn.body with
           |none=>ag
           |some c=>if aa.use g=U then ag else(dW P aa g [.code c] (args++ap (fn.ntmps - args.length) .aD) h)>>= λr=>DB P fn r>>= λq=>oh (aa.pure g) h q>>= λq=>match q.1 with
             |.inl v=>if qN P all (fN t O.dst v) q.2 ca then dW P aa f (.ops dI all l::k) (fN t O.dst v) q.2 else ag
             |.inr v=>o (.panic v,t,q.2)
     |none=>gk P (aa.bh f) t h O>>= λr=>if qN P all (fN t O.dst r.1) r.2 ca then dW P aa f (.ops dI all l::k) (fN t O.dst r.1) r.2 else ag
 |.code c::k=>
   match c with
   |.skip=>dW P aa f k t h
   |.label _=>dW P aa f k t h
   |.seq a b=>dW P aa f (.code a::.code b::k) t h
   |.cond c x y=>match bM t c with
     |.bool b=>if b then dW P aa f (.code x::k) t h else dW P aa f (.code y::k) t h
     |_=>ag
   |.block id b=>dW P aa f (.code b::.inBlock id::k) t h
   |.loop b=>dW P aa f (.code b::.inLoop b::k) (b2 (aa.aZ f) t) h
   |.exit id=>ps id k>>= λee=>dW P aa f ee t h
   |.ret=>o (.ret,t,h)
   |.region id ops d=>dW P aa f (.ops d ops (jT d ops (aa.cM f id))::k) t h
   |_=>ag
partial_fixpoint
abbrev yz:=Option (k8×List F×ai)
noncomputable def aU(P:c')(aa:iQ)(g:di)(args:List F)(h:ai):Option ((F⊕F)×ai):=
 match aa.ext g with
 |some ah=>ah args h
 |none=>match P.funcs[g]? with
   |none=>ag
   |some fn=>match fn.body with
     |none=>ag
     |some c=>if aa.use g=U then ag else(dW P aa g [.code c] (args++ap (fn.ntmps - args.length) .aD) h).bind λr=>(DB P fn r).bind λq=>oh (aa.pure g) h q
section
variable(P:c')(aa:iQ)(f:di)
open Classical in
noncomputable def DC(dI:Bool)(all:Array bm)(l:List (bm×List bm))(k:List jt)(t:List F)(h:ai)(ca:List bm):yz:=if qN P all t h ca then dW P aa f (.ops dI all l::k) t h else ag
noncomputable def OY(dI:Bool)(all:Array bm)(d:Option Tmp)(ca:List bm)(l:List (bm×List bm))(k:List jt)(t:List F):Option (F×ai)->yz
 |some (v,h)=>DC P aa f dI all l k (fN t d v) h ca
 |none=>ag
noncomputable def JG(dI:Bool)(all:Array bm)(d:Option Tmp)(ca:List bm)(l:List (bm×List bm))(k:List jt)(t:List F):Option ((F⊕F)×ai)->yz
 |some (.inl v,h)=>DC P aa f dI all l k (fN t d v) h ca
 |some (.inr v,h)=>o (.panic v,t,h)
 |none=>ag
noncomputable def DD(dI:Bool)(all:Array bm)(O:bm)(ca:List bm)(l:List (bm×List bm))(k:List jt)(t:List F)(h:ai):Option (di×List F)->yz
 |some (g,args)=>JG P aa f dI all O.dst ca l k t (aU P aa g args h)
 |none=>OY P aa f dI all O.dst ca l k t (gk P (aa.bh f) t h O)
noncomputable def FO(dI:Bool)(all:Array bm)(O:bm)(ca:List bm)(l:List (bm×List bm))(k:List jt)(t:List F)(h:ai):Option F->yz
 |some v=>o (.panic v,t,h)
 |none=>DD P aa f dI all O ca l k t h (gz t O)
noncomputable def JH(dI:Bool)(all:Array bm)(O:bm)(ca:List bm)(l:List (bm×List bm))(k:List jt)(t:List F)(h:ai):Option Bool->yz
 |some J=>FO P aa f dI all O ca l k t h (oe t O)
 |some U=>dW P aa f (.ops dI all l::k) (fN t O.dst (.bS [])) h
 |none=>ag
noncomputable def OZ(x y:gu)(k:List jt)(t:List F)(h:ai):F->yz
 |.bool b=>if b then dW P aa f (.code x::k) t h else dW P aa f (.code y::k) t h
 |_=>ag
noncomputable def WZ(t:List F)(h:ai):Option (List jt)->yz
 |some k=>dW P aa f k t h
 |none=>ag
noncomputable def yA(p:Bool)(fn:Func)(ak:ai):yz->Option ((F⊕F)×ai)
 |some (.ret,t,h)=>hf p ak h (ry fn t h P)
 |some (.panic v,_,h)=>oh p ak (.inr v,h)
 |some (.halt _,_,_)=>ag
 |none=>ag
where hf (p:Bool) (ak h:ai):Option F->Option ((F⊕F)×ai)
 |some v=>oh p ak (.inl v,h)
 |none=>ag
end
section
variable{P:c'}{aa:iQ}{f:di}{k:List jt}{t:List F}{h:ai}
theorem am':dW P aa f [] t h=o (.ret,t,h):=by rw[dW]
theorem ana{K:List Item}:dW P aa f (.halt K::k) t h=o (.halt K,t,h):=by rw[dW]
theorem anb{id:Nat}:dW P aa f (.inBlock id::k) t h=dW P aa f k t h:=by rw[dW]
theorem anc{c:gu}:dW P aa f (.inLoop c::k) t h=dW P aa f (.code c::.inLoop c::k) (b2 (aa.aZ f) t) h:=by rw[dW]
theorem ane{all:Array bm}:dW P aa f (.ops dI all []::k) t h=dW P aa f k t h:=by rw[dW]
theorem anf:dW P aa f (.code .skip::k) t h=dW P aa f k t h:=by rw[dW]
theorem ang{l:Nat}:dW P aa f (.code (.label l)::k) t h=dW P aa f k t h:=by rw[dW]
theorem O0{a b:gu}:dW P aa f (.code (.seq a b)::k) t h=dW P aa f (.code a::.code b::k) t h:=by rw[dW]
theorem anh{id:Nat}{b:gu}:dW P aa f (.code (.block id b)::k) t h=dW P aa f (.code b::.inBlock id::k) t h:=by rw[dW]
theorem ani{b:gu}:dW P aa f (.code (.loop b)::k) t h=dW P aa f (.inLoop b::k) t h:=by
 conv=>lhs;rw[dW]
 conv=>rhs;rw[dW]
theorem anj:dW P aa f (.code .ret::k) t h=o (.ret,t,h):=by rw[dW]
theorem ank{id:Nat}{ops:Array bm}{d:Bool}:dW P aa f (.code (.region id ops d)::k) t h=dW P aa f (.ops d ops (jT d ops (aa.cM f id))::k) t h:=by rw[dW]
theorem anl{id:Nat}:dW P aa f (.code (.exit id)::k) t h=WZ P aa f t h (ps id k):=by rw[dW];cases ps id k<;>rfl
theorem W0{c:g7}{x:gu}:dW P aa f (.code (.cond c x y)::k) t h=OZ P aa f x y k t h (bM t c):=by rw[dW];cases bM t c<;>rfl
theorem FP{all:Array bm}{O:bm}{l:List (bm×List bm)}:dW P aa f (.ops dI all ((O,ca)::l)::k) t h=JH P aa f dI all O ca l k t h (jk all t O):=by
 rw[dW];rcases jk all t O with _|⟨_|_⟩
 ·rfl
 ·rfl
 ·simp only[JH];rcases az:oe t O with _|v
  case some=>rfl
  simp only[FO];rcases an:gz t O with _|⟨g,args⟩
  ·simp only[DD];rcases gk P (aa.bh f) t h O with _|⟨v,E⟩<;>rfl
  ·simp only[DD,aU];cases aF:aa.ext g with
   |some ah=>simp only;rcases ah args h with _|⟨_|_,E⟩<;>rfl
   |none=>
     simp only;cases bo:P.funcs[g]? with
     |none=>rfl
     |some fn=>
       simp only;cases ad:fn.body with
       |none=>rfl
       |some c=>
         by_cases bV:aa.use g=U
         ·simp only[bV,if_true];rfl
         ·simp only[bV];generalize dW P aa g [.code c] (args++ap (fn.ntmps - args.length) .aD) h=r;rcases r with _|r
          ·rfl
          ·simp only[du,Option.bind_eq_bind];rcases DB P fn r with _|q
           ·rfl
           ·simp only[du];rcases oh (aa.pure g) h q with _|⟨_|_,E⟩<;>rfl
theorem JI{all:Array bm}{O:bm}{l:List (bm×List bm)}:JH P aa f dI all O ca l k t h (o J)=FO P aa f dI all O ca l k t h (oe t O):=rfl
theorem O1{all:Array bm}{O:bm}{l:List (bm×List bm)}:FO P aa f dI all O ca l k t h ag=DD P aa f dI all O ca l k t h (gz t O):=rfl
theorem anm{all:Array bm}{O:bm}{l:List (bm×List bm)}{v:F}:FO P aa f dI all O ca l k t h (o v)=o (.panic v,t,h):=rfl
theorem ann{all:Array bm}{O:bm}{l:List (bm×List bm)}:JH P aa f dI all O ca l k t h (o U)=dW P aa f (.ops dI all l::k) (fN t O.dst (.bS [])) h:=rfl
theorem W1{all:Array bm}{O:bm}{l:List (bm×List bm)}{g:di}{args:List F}:DD P aa f dI all O ca l k t h (o (g,args))=JG P aa f dI all O.dst ca l k t (aU P aa g args h):=rfl
theorem ano{all:Array bm}{O:bm}{l:List (bm×List bm)}:DD P aa f dI all O ca l k t h ag=OY P aa f dI all O.dst ca l k t (gk P (aa.bh f) t h O):=rfl
theorem anp{all:Array bm}{d:Option Tmp}{l:List (bm×List bm)}{v:F}:OY P aa f dI all d ca l k t (o (v,h))=DC P aa f dI all l k (fN t d v) h ca:=rfl
theorem anq{all:Array bm}{d:Option Tmp}{l:List (bm×List bm)}{v:F}:JG P aa f dI all d ca l k t (o (.inl v,h))=DC P aa f dI all l k (fN t d v) h ca:=rfl
theorem anr{all:Array bm}{d:Option Tmp}{l:List (bm×List bm)}{v:F}:JG P aa f dI all d ca l k t (o (.inr v,h))=o (.panic v,t,h):=rfl
theorem ans{x:gu}:OZ P aa f x y k t h (.bool J)=dW P aa f (.code x::k) t h:=rfl
theorem ant{x:gu}:OZ P aa f x y k t h (.bool U)=dW P aa f (.code y::k) t h:=rfl
theorem W2{all:Array bm}{l:List (bm×List bm)}(an:qN P all t h ca):DC P aa f dI all l k t h ca=dW P aa f (.ops dI all l::k) t h:=by simp[DC,an]
theorem anu{k:List jt}:WZ P aa f t h (o k)=dW P aa f k t h:=rfl
theorem anv{fn:Func}{p:Bool}{ak:ai}:yA P p fn ak (o (.ret,t,h))=yA.hf p ak h (ry fn t h P):=rfl
theorem z6{p:Bool}{ak:ai}{v:F}:yA.hf p ak h (o v)=oh p ak (.inl v,h):=rfl
theorem yB{ak:ai}{q:(F⊕F)×ai}:oh U ak q=o q:=by simp[oh]
theorem dE{ak:ai}{v a':F}(a5:aG ak h)(Z:dl v=o a'):oh J ak (.inl v,h)=o (.inl a',ak):=by simp[oh,a5,Z]
theorem FQ{ak:ai}{v a':F}(a5:aG ak h)(Z:dl v=o a'):oh J ak (.inr v,h)=o (.inr a',ak):=by simp[oh,a5,Z]
theorem anw{g:di}{fn:Func}{c:gu}{args:List F}{p:Bool}(aF:aa.ext g=ag)(bo:P.funcs[g]? =o fn)(ad:fn.body=o c)(bV:aa.use g=J)(az:aa.pure g=p):aU P aa g args h=yA P p fn h (dW P aa g [.code c] (args++ap (fn.ntmps - args.length) .aD) h):=by
 unfold aU;simp only[aF,bo,ad,bV,az];generalize dW P aa g [.code c] (args++ap (fn.ntmps - args.length) .aD) h=r;rcases r with _|⟨_|_|_,dQ,E⟩
 ·rfl
 ·simp only[Bool.true_eq_false,if_false,du,DB,yA];rcases ry fn dQ E P with _|v<;>rfl
 ·rfl
 ·rfl
end
open Go.RowKit
structure iR(ah:Nat->Prop)(w bj:dO):Prop where
 os:bj.os=w.os
 tape:bj.tape=w.tape
 output:bj.output=w.output
 size:w.heap.size<=bj.heap.size
 block:∀k,k<w.heap.size->¬ah k->bj.heap[k]? =w.heap[k]?
theorem iR.refl(ah:Nat->Prop)(w:dO):iR ah w w:=⟨rfl,rfl,rfl,b9 _,λ_ _ _=>rfl⟩
theorem iR.step{ah G:Nat->Prop}{a b c:dO}(h:iR ah a b)(k:iR G b c)(dm:∀i,i<a.heap.size->G i->ah i):iR ah a c:=⟨k.os.trans h.os,k.tape.trans h.tape,k.output.trans h.output,e6 h.size k.size,λi af aA=>(k.block i (fS af h.size) (λa5=>aA (dm i af a5))).trans (h.block i af aA)⟩
theorem iR.drew{ah:Nat->Prop}{a w:dO}(h:iR ah a w):iR ah a w.drew:=⟨h.os,h.tape,h.output,h.size,h.block⟩
theorem iR.alloc{ah:Nat->Prop}{a w:dO}(h:iR ah a w)(O:Obj):iR ah a (w.alloc O):=⟨h.os,h.tape,h.output,e6 h.size (by simp),λk ab aA=>(Below.heap_alloc w O k (fS ab h.size)).trans (h.block k ab aA)⟩
end Go.Proofs.YtkdbjfncchmmpaaGreat
namespace Go.RowKit
open Go.Proofs.YtkdbjfncchmmpaaGreat
end Go.RowKit
namespace Go.Proofs.YtkdbjfncchmmpaaGreat
variable{dI:Bool}{d:TypeDesc}{y:gu}{ca:List bm}{u:b'}{ty:a9}
open Go.RowKit
abbrev oi(w bj:dO):Prop:=iR (λ_=>False) w bj
theorem oi.below{w bj:dO}(h:oi w bj):Below w.heap.size w bj:=⟨h.os,h.tape,h.output,h.size,λk ab=>h.block k ab id⟩
theorem iR.below{ah:Nat->Prop}{B:Nat}{w bj:dO}(h:iR ah w bj)(dJ:∀k,ah k->B<=k)(sq:B<=w.heap.size):Below B w bj:=⟨h.os,h.tape,h.output,h.size,λk ab=>h.block k (by omega) (λbo=>by have:=dJ k bo;omega)⟩
end Go.Proofs.YtkdbjfncchmmpaaGreat
namespace Go.RowKit
open Go.Proofs.YtkdbjfncchmmpaaGreat
end Go.RowKit
namespace Go.Proofs.YtkdbjfncchmmpaaGreat
variable{dI:Bool}{d:TypeDesc}{y:gu}{ca:List bm}{u:b'}{ty:a9}
open Go.RowKit
end Go.Proofs.YtkdbjfncchmmpaaGreat
namespace Go.RowKit
open Go.Proofs.YtkdbjfncchmmpaaGreat
end Go.RowKit
namespace Go.Proofs.YtkdbjfncchmmpaaGreat
variable{dI:Bool}{d:TypeDesc}{y:gu}{ca:List bm}{u:b'}{ty:a9}
open Go.RowKit
def lG(w:dO)(g:Nat)(t:a9)(cs:Array b'):Prop:=w.heap[g]? =o (.cells cs t (0,0))
section
variable{w bj:dO}{g:Nat}{t:a9}{cs:Array b'}
theorem lG.lt(h:lG w g t cs):g<w.heap.size:=by
 rcases oj g w.heap.size with ba|vV
 ·exact ba
 ·unfold lG at h;rw[Array.getElem?_eq_none vV]at h;cases h
theorem lG.cell(h:lG w g t cs)(i:Nat):w.cell? ⟨g,i,ag⟩=cs[i]? :=cell_of_row w g i cs t (0,0) h
theorem lG.new(w:dO)(t:a9)(cs:Array b'):lG (w.alloc (.cells cs t)) w.heap.size t cs:=heap_alloc_new w _
theorem lG.only{ah:Nat->Prop}(h:lG w g t cs)(ad:iR ah w bj)(a5:¬ah g):lG bj g t cs:=(ad.block g h.lt a5).trans h
end
def md(w:dO)(size:Nat)(A:Option Addr)(n cap:Nat)(xs:List b'):Prop:=xs.length=n*size/\n<=cap/\(A=ag->cap=0)/\∀a,A=o a->(0<n->a.spot=ag)/\∀D u,xs[D]? =o u->w.cell? ⟨a.block,a.off+D,ag⟩=o u
section
variable{w bj:dO}{size n cap:Nat}{A:Option Addr}{xs:List b'}
theorem md.some_(h:md w size A n cap xs)(aA:0<n):∃b O,A=o ⟨b,O,ag⟩:=by
 obtain⟨_,an,ak,I⟩:=h;rcases A with _|a
 ·have:=ak rfl;omega
 ·obtain⟨b,O,s⟩:=a;have:=(I _ rfl).1 aA;simp at this;subst this;exact⟨b,O,rfl⟩
theorem md.anx{b O:Nat}(h:md w size (o ⟨b,O,ag⟩) n cap xs){p:Nat}(ae:xs[p]? =o u):w.cell? ⟨b,O+p,ag⟩=o u:=(h.2.2.2 _ rfl).2 p u ae
theorem md.anz{base:Nat}{e:a9}(h:w.ownsRow base e size (.slice A n cap) n xs):md w size A n cap xs:=by
 refine⟨h.1,?_⟩;rcases h.2 with⟨Z,ak⟩|⟨g,tk,cur,Z,_,bA,yC,_,p7,DE⟩
 ·simp at Z;obtain⟨rfl,rfl,rfl⟩:=Z;exact⟨b9 _,λ_=>rfl,(λa h=>by cases h)⟩
 ·simp at Z;obtain⟨rfl,rfl⟩:=Z;refine⟨yC,(λh=>by cases h),λa aV=>?_⟩;obtain rfl:=k9 aV;refine⟨λ_=>rfl,λD u bV=>?_⟩;have:=h.cells (g:=g) rfl D u bV;rwa [rA]at this
theorem md.g9(h:md w size A n cap xs)(ab:∀p:Addr,A.map (·.block)=o p.block->w.cell? p≠ag->bj.cell? p=w.cell? p):md bj size A n cap xs:=by refine⟨h.1,h.2.1,h.2.2.1,λa aV=>⟨(h.2.2.2 a aV).1,λD u bV=>?_⟩⟩;have an:=(h.2.2.2 a aV).2 D u bV;rw[ab _ (by simp[aV]) (by rw[an];simp)];exact an
theorem W3{p:Addr}(h:w.cell? p≠ag):p.block<w.heap.size:=by
 rcases an:w.cell? p with _|u
 ·exact absurd an h
 ·exact World.block_lt_of_cell? w p an
theorem md.only{ah:Nat->Prop}(h:md w size A n cap xs)(aK:iR ah w bj)(dJ:∀k,A.map (·.block)=o k->¬ah k):md bj size A n cap xs:=h.g9 λp az an=>World.cell?_of_block (aK.block _ (W3 an) (dJ _ az))
theorem md.new(h:md w size A n cap xs)(aK:oi w bj):md bj size A n cap xs:=h.only aK (λ_ _=>id)
theorem md.anA{g:Nat}{t:a9}{cs:Array b'}{O:Nat}(h:lG w g t cs)(aA:n<=cap)(aF:xs.length=n*size)(an:∀D u,xs[D]? =o u->cs[O+D]? =o u):md w size (o ⟨g,O,ag⟩) n cap xs:=
 by
 refine⟨aF,aA,(λh=>by cases h),λa aV=>?_⟩;obtain rfl:=k9 aV;exact⟨λ_=>rfl,λD u bV=>(h.cell (O+D)).trans (an D u bV)⟩
end
theorem anB{P:c'}(base:Nat)(t ty e:a9)(i:TypeInfo)(z:b')(size bytes:Nat)(a6:P.underlying t=o (.slice e))(af:P.info? e=o i)(aB:i.zero=o z)(uC:i.size=size)(vW:i.bytes=bytes)(FR:z.cells.size=size)(fa:0<size)(v:b')(n:Nat)(xs:List b')(w:dO)(jv:w.ownsRow base e size v n xs)(A:Option Addr)(m c:Nat)(eG:List b')(au:md w size A m c eG)(I:∀u∈eG,u.oneCell'=J)(yD:n+m<=maxLen)(Bu:(n+m)*bytes<=140737488355328)(Bv:base<=w.heap.size):∃a' bj,(yE #[t,t] ty #[v,.slice A m c]).run P w= .ok a' bj/\bj.ownsRow base e size a' (n+m) (xs++eG)/\iR (λk=>o k=v.ownBlock) w bj/\(a'.ownBlock=v.ownBlock\/a'.ownBlock=o w.heap.size)/\(0<n+m->∃g cap,a'= .slice (o ⟨g,0,ag⟩) (n+m) cap):=by
 rcases A with _|qO
 ·have z7:=au.2.2.1 rfl;have aDj:=au.2.1;obtain rfl:m=0:=by omega
  subst z7;have aA:eG=[]:=List.eq_nil_of_length_eq_zero (by simpa using au.1);subst aA;refine⟨v,w,run_append_owned_none (P:=P) w base t ty e i size a6 af v n xs jv,by simpa using jv,iR.refl _ _,.inl rfl,λak=>?_⟩;rcases jv.2 with⟨rfl,h⟩|⟨g,cap,cur,rfl,_⟩
  ·omega
  ·exact⟨g,cap,rfl⟩
 ·have DF:∀D u,eG[D]? =o u->w.cell? (qO.add D)=o u:=by
   intro D u bV;obtain⟨aC,xe⟩:=au.2.2.2 qO rfl;have:=xe D u bV;obtain⟨b,O,JJ⟩:=qO;have hm:0<m:=by
    rcases Nat.eq_zero_or_pos m with ak|ak
    ·subst ak;have aA:eG=[]:=List.eq_nil_of_length_eq_zero (by simpa using au.1);subst aA;simp at bV
    ·exact ak
   have aC:=aC hm;simp at aC;subst aC;rw[rA];exact this
  obtain⟨a',bj,mC,R,aj,aH,bq⟩:=run_append_own_at (P:=P) w base t ty e i z size bytes a6 af aB uC vW FR fa v n xs jv qO m c eG au.1 DF I yD Bu Bv;refine⟨a',bj,mC,R,⟨aj.os,aj.tape,aj.output,aj.size,aj.block⟩,bq,λak=>?_⟩;rcases R.2 with⟨_,h⟩|⟨g,cap,cur,rfl,_⟩
  ·omega
  ·exact⟨g,cap,rfl⟩
theorem anC{P:c'}{ops:Array bm}{rest:List bm}{O:bm}{a:Act}{Q:Exit->Act->dO->Prop}(anD:O.guard=ag)(s x:g7)(t:a9)(aK:O.op= .call {callee:=.builtin .append,args:= #[s,x],argTypes:= #[t,t]})(base:Nat)(e:a9)(i:TypeInfo)(z:b')(size bytes:Nat)(a6:P.underlying t=o (.slice e))(af:P.info? e=o i)(aB:i.zero=o z)(uC:i.size=size)(vW:i.bytes=bytes)(FR:z.cells.size=size)(fa:0<size)(v:b')(n:Nat)(xs:List b')(w:dO)(aC:a.eval s=v)(jv:w.ownsRow base e size v n xs)(A:Option Addr)(m c:Nat)(eG:List b')(aF:a.eval x= .slice A m c)(au:md w size A m c eG)(I:∀u∈eG,u.oneCell'=J)(yD:n+m<=maxLen)(Bu:(n+m)*bytes<=140737488355328)(Bv:base<=w.heap.size)(h:∀a' bj,bj.ownsRow base e size a' (n+m) (xs++eG)->iR (λk=>o k=v.ownBlock) w bj->(a'.ownBlock=v.ownBlock\/a'.ownBlock=o w.heap.size)->(0<n+m->∃g cap,a'= .slice (o ⟨g,0,ag⟩) (n+m) cap)->wpList P ops Q rest (a.put O.dst a') bj):wpList P ops Q (O::rest) a w:=by refine wpList_plain anD λ_ eB=>?_;obtain⟨a',bj,mC,R,aj,aH,bq⟩:=anB (P:=P) base t O.type e i z size bytes a6 af aB uC vW FR fa v n xs w jv A m c eG au I yD Bu Bv;unfold Oper.wp f';simp only[aK,resolve,invoke,builtin,i',mD,i2,List.map_toArray,kf,pt,aC,aF,mC];exact eB _ _ (h a' bj R aj aH bq)
theorem W4{ah:Nat->Prop}{w bj:dO}{base:Nat}{e:a9}{size:Nat}{v:b'}{n:Nat}{xs:List b'}(h:w.ownsRow base e size v n xs)(aK:iR ah w bj)(am:∀g,v.ownBlock=o g->¬ah g):bj.ownsRow base e size v n xs:=by
 refine⟨h.1,?_⟩;rcases h.2 with I|⟨g,cap,cur,rfl,a5,bA,r⟩
 ·exact .inl I
 ·exact .inr ⟨g,cap,cur,rfl,a5,(lG.only (t:=e) bA aK (am g rfl)),r⟩
@[simp] theorem aab (g n cap:Nat):(Value.slice (some ⟨g,0,none⟩) n cap).ownBlock=some g:=rfl
@[simp] theorem aaa (n cap:Nat):(Value.slice none n cap).ownBlock=none:=rfl
theorem aDk{α:Type}{f:α->List b'}{s:Nat}(bo:∀a,(f a).length=s)(l:List α):(l.flatMap f).length=l.length*s:=by
 induction l with
 |nil=>simp
 |cons a l aR=>simp[List.flatMap_cons,aR,bo,Nat.add_mul];omega
open Go Go.RowKit
structure ey where
 base:Nat
 cu:Nat->Nat
 hQ:Nat->a9
 oX:Nat->Nat
 eP:Nat->Nat->Option b'
 jU:Nat->Nat
 uD:Nat->Nat
 mY:Nat->a9
 gN:Nat->Option Obj
inductive b8(P:c')(m:ey)(h:ai):F->b'->Prop
 |aD (v:b'):b8 P m h .aD v
 |bool (b:Bool):b8 P m h (.bool b) (.bool b)
 |int (k:gZ) (n:Int):b8 P m h (.int k n) (.int k n)
 |str (l:List UInt8):b8 P m h (.str l) (.string ⟨l.toArray⟩)
 |e':b8 P m h .e' (.pointer ag)
 |ptr (b i off:Nat) (ad:b<h.n):b8 P m h (.ptr b i off) (.pointer (o ⟨m.cu b,i*P.cellsOf (m.hQ b)+off,ag⟩))
 |gM (t:a9) (b:Nat) (ad:b<h.n) (a6:m.hQ b=t):b8 P m h (.gM t b) (.pointer (o ⟨m.cu b,0,ag⟩))
 |ip (e:List F) (off g O:Nat) (ah:Nat->b') (af:∀D,D<e.length->m.eP g (O+D)=o (ah D)) (Z:∀D (ae:D<e.length),b8 P m h e[D] (ah D)):b8 P m h (.ip e off) (.pointer (o ⟨g,O+off,ag⟩))
 |aJ:b8 P m h .aJ (.slice ag 0 0)
 |b5 (id:Option Nat) (e:a9) (es:List (List F)) (g O cap:Nat) (ah:Nat->Nat->b') (am:∀r∈es,r.length=P.cellsOf e)
   (af:∀i,i<es.length->∀D,D<P.cellsOf e->m.eP g (O+(i*P.cellsOf e+D))=o (ah i D)) (Z:∀i (af:i<es.length) D (ae:D<es[i].length),b8 P m h es[i][D] (ah i D)) (an:es.length<=cap)
   (a6:∀k,id=o k->k<h.ids/\m.mY k=e/\es.length<=h.hw k/\(es.length=h.hw k->g=m.jU k/\O=0/\cap=m.uD k)):b8 P m h (.b5 id e es) (.slice (o ⟨g,O,ag⟩) es.length cap)
 |oY (e:a9) (a:Addr) (cap:Nat):b8 P m h (.b5 ag e []) (.slice (o a) 0 cap)
 |bw (b O n:Nat) (e:a9) (cap:Nat) (ad:b<h.n) (he:m.hQ b=e) (kQ:(O+cap)*P.cellsOf e=m.oX b) (aA:n<=cap) (kR:cap<=maxLen):b8 P m h (.bw b O n e) (.slice (o ⟨m.cu b,O*P.cellsOf e,ag⟩) n cap)
 |fn (g:di) (l c:List F) (ch eo:List b') (I:ch.length=l.length) (R:eo.length=c.length) (aj:∀D (ae:D<l.length) (dM:D<ch.length),b8 P m h l[D] ch[D]) (aH:∀D (ae:D<c.length) (dM:D<eo.length),b8 P m h c[D] eo[D]):
   b8 P m h (.fn g l c) (.func (.func g) ch.toArray eo.toArray)
 |oW:b8 P m h .oW .nilFunc
 |iZ:b8 P m h .iZ .nilIface
 |iface (t:a9) (v:F) (a':b') (I:b8 P m h v a'):b8 P m h (.iface t v) (.iface t a')
 |agg (l:List F) (ch:List b') (I:ch.length=l.length) (aj:∀D (ae:D<l.length) (dM:D<ch.length),b8 P m h l[D] ch[D]):b8 P m h (.agg l) (.agg ch.toArray)
 |bS (l:List F) (ch:List b') (I:ch.length=l.length) (aj:∀D (ae:D<l.length) (dM:D<ch.length),b8 P m h l[D] ch[D]):b8 P m h (.bS l) (.tuple ch.toArray)
def eb(P:c')(m:ey)(h:ai)(l:List F)(ch:List b'):Prop:=ch.length=l.length/\∀D (ae:D<l.length) (dM:D<ch.length),b8 P m h l[D] ch[D]
def W5(P:c'):List (String×gZ×List Int):=
 if(P.globalNamed ("internal"++String.singleton (Char.ofNat 47)++ "strconv.uint64pow10")).isSome then[("internal"++String.singleton (Char.ofNat 47)++ "strconv.uint64pow10",.u64,Lib.pow10Tab)]else[]
def W6(P:c'):List String:=["strconv.ErrSyntax", "strconv.ErrRange"].filter λn=>(P.globalNamed n).isSome
structure Bw(P:c')(b:Nat)(w:dO):Prop where
 anE:∀q∈W5 P,Lib.TabIs P w q.1 q.2.1 q.2.2/\∀g,P.globalNamed q.1=o g->g<b
 anF:∀n∈W6 P,(∃ec p,w.var? P n=o #[.iface ec p])/\∀g,P.globalNamed n=o g->g<b
theorem W7{P:c'}{n:String}{b:Nat}{w bj:dO}(R:∀g,P.globalNamed n=o g->g<b)(ad:b<=w.heap.size)(h:∀g,g<w.heap.size->g<b->bj.heap[g]? =w.heap[g]?):bj.var? P n=w.var? P n:=by
 unfold World.var?;rcases aA:P.globalNamed n with _|g
 ·rfl
 ·have ba:=R g aA;simp only[du];rw[h g (by omega) ba]
theorem Bw.g9{P:c'}{b:Nat}{w bj:dO}(a5:Bw P b w)(ad:b<=w.heap.size)(h:∀g,g<w.heap.size->g<b->bj.heap[g]? =w.heap[g]?):Bw P b bj:=by
 refine⟨λq aX=>?_,λn aA=>?_⟩
 ·obtain⟨I,R⟩:=a5.anE q aX;refine⟨?_,R⟩;unfold Lib.TabIs at I ⊢;rw[W7 R ad h];exact I
 ·obtain⟨I,R⟩:=a5.anF n aA;refine⟨?_,R⟩;rw[W7 R ad h];exact I
structure cp(P:c')(m:ey)(h:ai)(w:dO):Prop where
 size:m.base<=w.heap.size
 lt:∀b es,h.cell b=o es->b<h.n/\m.base<=m.cu b
 live:∀b es,h.cell b=o es->∃cs,lG w (m.cu b) (m.hQ b) cs/\cs.size=m.oX b/\(∀r∈es,r.length=P.cellsOf (m.hQ b))/\es.length*P.cellsOf (m.hQ b)<=cs.size/\
  ∀i (af:i<es.length) D (ae:D<es[i].length),∃v,cs[i*P.cellsOf (m.hQ b)+D]? =o v/\b8 P m h es[i][D] v
 inj:∀b gl es gS,h.cell b=o es->h.cell gl=o gS->m.cu b=m.cu gl->b=gl
 eP:∀g O v,m.eP g O=o v->w.cell? ⟨g,O,ag⟩=o v
 sep:∀b es,h.cell b=o es->∀O,m.eP (m.cu b) O=ag
 rB:∀k,k<h.ids->∃xs,w.ownsRow m.base (m.mY k) (P.cellsOf (m.mY k)) (.slice (o ⟨m.jU k,0,ag⟩) (h.hw k) (m.uD k)) (h.hw k) xs
 p8:∀k,k<h.ids->∀O,h.hw k*P.cellsOf (m.mY k)<=O->m.eP (m.jU k) O=ag
 oZ:∀k,k<h.ids->∀b es,h.cell b=o es->m.cu b≠m.jU k
 qP:∀k ee,k<h.ids->ee<h.ids->m.jU k=m.jU ee->k=ee
 cY:Bw P m.base w
 gN:∀g x,m.gN g=o x->m.base<=g/\w.heap[g]? =o x/\(∀b es,h.cell b=o es->m.cu b≠g)/\(∀k,k<h.ids->m.jU k≠g)/\∀O,m.eP g O=ag
structure Ext(m:ey)(h:ai)(bf:ey)(E:ai):Prop where
 base:bf.base=m.base
 n:h.n<=E.n
 ids:h.ids<=E.ids
 cu:∀b,b<h.n->bf.cu b=m.cu b/\bf.hQ b=m.hQ b/\bf.oX b=m.oX b
 eP:∀g O v,m.eP g O=o v->bf.eP g O=o v
 mY:∀k,k<h.ids->bf.mY k=m.mY k/\h.hw k<=E.hw k/\(E.hw k=h.hw k->bf.jU k=m.jU k/\bf.uD k=m.uD k)
 gN:∀g x,m.gN g=o x->bf.gN g=o x
theorem Ext.refl(m:ey)(h:ai):Ext m h m h:=⟨rfl,b9 _,b9 _,λ_ _=>⟨rfl,rfl,rfl⟩,λ_ _ _ h=>h,λ_ _=>⟨rfl,b9 _,λ_=>⟨rfl,rfl⟩⟩,λ_ _ h=>h⟩
theorem Ext.trans{cO c8 hK:ey}{I R aj:ai}(x:Ext cO I c8 R)(y:Ext c8 R hK aj):Ext cO I hK aj:=by
 refine⟨y.base.trans x.base,e6 x.n y.n,e6 x.ids y.ids,λb ad=>?_,λg O v h=>y.eP g O v (x.eP g O v h),λk ab=>?_,λg v h=>y.gN g v (x.gN g v h)⟩
 ·obtain⟨aP,a2,bl⟩:=x.cu b ad;obtain⟨cg,c0,fq⟩:=y.cu b (fS ad x.n);exact⟨cg.trans aP,c0.trans a2,fq.trans bl⟩
 ·obtain⟨aP,a2,bl⟩:=x.mY k ab;obtain⟨cg,c0,fq⟩:=y.mY k (fS ab x.ids);refine⟨cg.trans aP,e6 a2 c0,λe=>?_⟩;obtain⟨aW,bD⟩:=bl (by omega);obtain⟨d1,d2⟩:=fq (by omega);exact⟨d1.trans aW,d2.trans bD⟩
section
variable{P:c'}{m bf:ey}{h E:ai}{w bj:dO}
theorem b8.ext(x:Ext m h bf E){v:F}(r:b8 P m h v u):b8 P bf E v u:=by
 induction r with
 |aD v=>exact .aD v
 |bool b=>exact .bool b
 |int k n=>exact .int k n
 |str l=>exact .str l
 |e'=>exact .e'
 |ptr b i off ad=>obtain⟨aP,a2,bl⟩:=x.cu b ad;have:=b8.ptr (P:=P) (m:=bf) (h:=E) b i off (fS ad x.n);rwa [aP,a2]at this
 |gM t b ad a6=>obtain⟨aP,a2,bl⟩:=x.cu b ad;have:=b8.gM (P:=P) (m:=bf) (h:=E) t b (fS ad x.n) (a2.trans a6);rwa [aP]at this
 |ip e off g O ah af Z aR=>exact .ip e off g O ah (λD ae=>x.eP _ _ _ (af D ae)) aR
 |aJ=>exact .aJ
 |b5 id e es g O cap ah am af Z an a6 aR=>refine .b5 id e es g O cap ah am (λi fb D ae=>x.eP _ _ _ (af i fb D ae)) aR an (λk ab=>?_);obtain⟨I,R,aj,aH⟩:=a6 k ab;obtain⟨t1,t2,t3⟩:=x.mY k I;refine⟨fS I x.ids,t1.trans R,e6 aj t2,λdT=>?_⟩;obtain⟨aW,bD,cl⟩:=aH (by omega);obtain⟨d1,d2⟩:=t3 (by omega);exact⟨aW.trans d1.symm,bD,cl.trans d2.symm⟩
 |oY e a cap=>exact .oY e a cap
 |bw b O n e cap ad he kQ aA kR=>obtain⟨aP,a2,bl⟩:=x.cu b ad;have:=b8.bw (P:=P) (m:=bf) (h:=E) b O n e cap (fS ad x.n) (a2.trans he) (kQ.trans bl.symm) aA kR;rwa [aP]at this
 |fn g l c ch eo I R aj aH z8 sr=>exact .fn g l c ch eo I R z8 sr
 |oW=>exact .oW
 |iZ=>exact .iZ
 |iface t v a' I aR=>exact .iface t v a' aR
 |agg l ch I aj aR=>exact .agg l ch I aR
 |bS l ch I aj aR=>exact .bS l ch I aR
theorem b8.O2{v:F}(r:b8 P m h v u):∃a',b8 P m h a' u/\(∀t b,a'≠.gM t b)/\(∀agg n,cR agg n h a'=cR agg n h v)/\∀n x,e0 n h a' x=e0 n h v x:=by
 by_cases Z:∃t b,v= .gM t b
 ·obtain⟨t,b,rfl⟩:=Z;cases r with
  |gM _ _ ad a6=>refine⟨.ptr b 0 0,?_,(λ_ _ e=>nomatch e),λ_ _=>rfl,λ_ _=>rfl⟩;have:=b8.ptr (P:=P) (m:=m) (h:=h) b 0 0 ad;simpa using this
 ·exact⟨v,r,λt b e=>Z ⟨t,b,e⟩,λ_ _=>rfl,λ_ _=>rfl⟩
theorem b8.O3:b8 P m h (.bS []) g0:=b8.bS [] [] rfl (λD ae=>by simp at ae)
theorem eb.nil:eb P m h [] []:=⟨rfl,λD ae=>by simp at ae⟩
theorem eb.cons{a:F}{b:b'}{l:List F}{ch:List b'}(I:b8 P m h a b)(R:eb P m h l ch):eb P m h (a::l) (b::ch):=by
 refine⟨by simp[R.1],λD ae dM=>?_⟩;cases D with
 |zero=>exact I
 |succ D=>exact R.2 D (by simpa using ae) (by simpa using dM)
theorem eb.append{cD c9:List F}{bx bL:List b'}(I:eb P m h cD bx)(R:eb P m h c9 bL):eb P m h (cD++c9) (bx++bL):=by
 refine⟨by simp[I.1,R.1],λD ae dM=>?_⟩;by_cases ba:D<cD.length
 ·rw[List.getElem_append_left ba,List.getElem_append_left (by rw[I.1];exact ba)];exact I.2 D ba _
 ·rw[List.getElem_append_right (by omega),List.getElem_append_right (by rw[I.1];omega)];have e:=I.1;simp only[e];exact R.2 _ _ _
theorem eb.map{α:Type}{f:α->F}{g:α->b'}{l:List α}(bo:∀x∈l,b8 P m h (f x) (g x)):eb P m h (l.map f) (l.map g):=by refine⟨by simp,λD ae dM=>?_⟩;simp only[List.getElem_map];exact bo _ (jl _)
theorem eb.get?{l:List F}{ch:List b'}(r:eb P m h l ch){D:Nat}{v:F}(Z:l[D]? =o v):∃u,ch[D]? =o u/\b8 P m h v u:=by
 obtain⟨ae,rfl⟩:=fO.1 Z;have dM:D<ch.length:=by rw[r.1];exact ae
 exact⟨ch[D],fT dM,r.2 D ae dM⟩
theorem cp.below(hw:cp P m h w){b:Nat}{es:List (List F)}(ad:h.cell b=o es):m.cu b<w.heap.size:=by obtain⟨cs,an,_⟩:=hw.live b es ad;exact an.lt
theorem cp.tl(hw:cp P m h w){g O:Nat}{v:b'}(af:m.eP g O=o v):g<w.heap.size:=by have:=hw.eP g O v af;exact W3 (w:=w) (p:=⟨g,O,ag⟩) (by rw[this];simp)
theorem cp.tm(hw:cp P m h w){k:Nat}(ab:k<h.ids):m.base<=m.jU k/\m.jU k<w.heap.size:=by obtain⟨xs,aF⟩:=hw.rB k ab;exact aF.lt _ rfl
theorem cp.only{S:Nat->Prop}(hw:cp P m h w)(aK:iR S w bj)(I:∀b es,h.cell b=o es->¬S (m.cu b))(R:∀g O v,m.eP g O=o v->¬S g)(aj:∀k,k<h.ids->¬S (m.jU k))(aH:∀g,g<m.base->¬S g)(bq:∀g x,m.gN g=o x->¬S g):cp P m h bj:=by
 refine⟨e6 hw.size aK.size,hw.lt,λb es ad=>?_,hw.inj,λg O v af=>?_,hw.sep,λk ab=>?_,hw.p8,hw.oZ,hw.qP,hw.cY.g9 hw.size λg a5 ad=>aK.block g a5 (aH g ad),λg x aF=>?_⟩
 ·obtain⟨cs,an,au⟩:=hw.live b es ad;exact⟨cs,an.only aK (I b es ad),au⟩
 ·rw[World.cell?_of_block (w:=w) (aK.block _ (hw.tl af) (R g O v af))];exact hw.eP g O v af
 ·obtain⟨xs,aF⟩:=hw.rB k ab;exact⟨xs,W4 aF aK (λg a5=>by simp at a5;subst a5;exact aj k ab)⟩
 ·obtain⟨aP,a2,bl⟩:=hw.gN g x aF;exact⟨aP,(aK.block g (Array.getElem?_eq_some_iff.1 a2).1 (bq g x aF)).trans a2,bl⟩
theorem cp.xf(hw:cp P m h w){g:Nat}{x:Obj}(aF:m.gN g=o x):g<w.heap.size:=(Array.getElem?_eq_some_iff.1 (hw.gN g x aF).2.1).1
theorem cp.new(hw:cp P m h w)(aK:oi w bj):cp P m h bj:=hw.only aK (λ_ _ _=>id) (λ_ _ _ _=>id) (λ_ _=>id) (λ_ _=>id) (λ_ _ _=>id)
theorem cp.drew(hw:cp P m h w):cp P m h w.drew:=hw.new (iR.refl _ _).drew
theorem cp.push(hw:cp P m h w)(bj:dO)(e:a9)(es:List (List F))(cs:Array b')(aA:oi w bj)(uE:lG bj w.heap.size e cs)(aC:es.length*P.cellsOf e<=cs.size)(am:∀r∈es,r.length=P.cellsOf e)(Z:∀i (af:i<es.length) D (ae:D<es[i].length),∃v,cs[i*P.cellsOf e+D]? =o v/\b8 P m h es[i][D] v):∃bf,Ext m h bf (h.push es)/\cp P bf (h.push es) bj/\bf.cu h.n=w.heap.size/\bf.hQ h.n=e/\bf.oX h.n=cs.size:=by
 refine⟨{m with cu:=λb=>if b=h.n then w.heap.size else m.cu b,hQ:=λb=>if b=h.n then e else m.hQ b,oX:=λb=>if b=h.n then cs.size else m.oX b},?_,?_,by simp,by simp,by simp⟩
 ·exact⟨rfl,by simp[ai.push],by simp[ai.push],λb ad=>by simp[show b≠h.n by omega],λ_ _ _ h=>h,λk ab=>⟨rfl,b9 _,λ_=>⟨rfl,rfl⟩⟩,λ_ _ h=>h⟩
 ·have aF:Ext m h {m with cu:=λb=>if b=h.n then w.heap.size else m.cu b,hQ:=λb=>if b=h.n then e else m.hQ b,oX:=λb=>if b=h.n then cs.size else m.oX b} (h.push es):=⟨rfl,by simp[ai.push],by simp[ai.push],λb ad=>by simp[show b≠h.n by omega],λ_ _ _ h=>h,λk ab=>⟨rfl,b9 _,λ_=>⟨rfl,rfl⟩⟩,λ_ _ h=>h⟩;have gT:=hw.new aA;have fF:∀b x,(h.push es).cell b=o x->b≠h.n->h.cell b=o x:=by intro b x ad dw;simpa[ai.push,dw]using ad
  have new:∀b x,(h.push es).cell b=o x->b=h.n->x=es:=by intro b x ad he;subst he;simp[ai.push]at ad;exact ad.symm
  refine⟨gT.size,λb x ad=>?_,λb x ad=>?_,λb gl x kP ad lZ he=>?_,gT.eP,λb x ad O=>?_,gT.rB,gT.p8,λk ab b x ad=>?_,gT.qP,gT.cY,λg x aF=>?_⟩
  ·by_cases ie:b=h.n
   ·subst ie;exact⟨by simp[ai.push],by simpa using hw.size⟩
   ·have:=hw.lt b x (fF b x ad ie);exact⟨by simp[ai.push];omega,by simpa[ie]using this.2⟩
  ·by_cases ie:b=h.n
   ·subst ie;have:=new _ _ ad rfl;subst this;refine⟨cs,by simpa using uE,by simp,by simpa using am,by simpa using aC,λi af D ae=>?_⟩;obtain⟨v,I,R⟩:=Z i af D ae;exact⟨v,by simpa using I,R.ext aF⟩
   ·obtain⟨hB,I,R,aj,aH,bq⟩:=gT.live b x (fF b x ad ie);refine⟨hB,by simpa[ie]using I,by simpa[ie]using R,by simpa[ie]using aj,by simpa[ie]using aH,λi af D ae=>?_⟩;obtain⟨v,cq,de⟩:=bq i af D ae;exact⟨v,by simpa[ie]using cq,de.ext aF⟩
  ·by_cases I:b=h.n<;>by_cases R:gl=h.n
   ·omega
   ·have:=hw.below (fF _ _ lZ R);simp[I,R]at he;omega
   ·have:=hw.below (fF _ _ ad I);simp[I,R]at he;omega
   ·simp[I,R]at he;exact hw.inj b gl x kP (fF _ _ ad I) (fF _ _ lZ R) he
  ·by_cases I:b=h.n
   ·simp only[I,if_true];rcases af:m.eP w.heap.size O with _|v
    ·rfl
    ·have:=hw.tl af;omega
   ·simp only[I,if_false];exact hw.sep b x (fF _ _ ad I) O
  ·by_cases I:b=h.n
   ·have:=hw.tm ab;simp[I];omega
   ·simp only[I,if_false];exact hw.oZ k ab b x (fF _ _ ad I)
  ·obtain⟨aP,a2,bl,cr,ej⟩:=gT.gN g x aF;refine⟨aP,a2,λb y ad=>?_,cr,ej⟩;by_cases I:b=h.n
   ·have:=hw.xf aF;simp only[I,if_true];omega
   ·simp only[I,if_false];exact bl b y (fF _ _ ad I)
theorem cp.JK(hw:cp P m h w){b:Nat}{es gS:List (List F)}(ad:h.cell b=o es)(aK:iR (λk=>k=m.cu b) w bj)(hB:Array b')(an:lG bj (m.cu b) (m.hQ b) hB)(aC:hB.size=m.oX b)(am:∀r∈gS,r.length=P.cellsOf (m.hQ b))(hle:gS.length*P.cellsOf (m.hQ b)<=hB.size)(Z:∀i (af:i<gS.length) D (ae:D<gS[i].length),∃v,hB[i*P.cellsOf (m.hQ b)+D]? =o v/\b8 P m h gS[i][D] v):Ext m h m (h.set b (o gS))/\cp P m (h.set b (o gS)) bj:=by
 have aF:Ext m h m (h.set b (o gS)):=⟨rfl,b9 _,b9 _,λ_ _=>⟨rfl,rfl,rfl⟩,λ_ _ _ h=>h,λ_ _=>⟨rfl,b9 _,λ_=>⟨rfl,rfl⟩⟩,λ_ _ h=>h⟩;refine⟨aF,?_⟩;have some_:∀gl x,(h.set b (o gS)).cell gl=o x->∃y,h.cell gl=o y:=by
  intro gl x lZ;by_cases e:gl=b
  ·subst e;exact⟨_,ad⟩
  ·exact⟨x,by simpa[ai.set,e]using lZ⟩
 refine⟨e6 hw.size aK.size,λgl x lZ=>?_,λgl x lZ=>?_,λcg c0 cb dF I R he=>?_,λg O v af=>?_,λgl x lZ O=>?_,λk ab=>?_,hw.p8,λk ab gl x lZ=>?_,hw.qP,hw.cY.g9 hw.size λg a5 ba=>aK.block g a5 (λe=>by have:=(hw.lt b es ad).2;omega),λg x ae=>?_⟩
 ·obtain⟨y,bH⟩:=some_ _ _ lZ;exact hw.lt _ _ bH
 ·by_cases e:gl=b
  ·subst e;have:x=gS:=by simpa[ai.set,eq_comm]using lZ
   subst this;refine⟨hB,an,aC,am,hle,λi af D ae=>?_⟩;obtain⟨v,I,R⟩:=Z i af D ae;exact⟨v,I,R.ext aF⟩
  ·have qQ:h.cell gl=o x:=by simpa[ai.set,e]using lZ
   obtain⟨bD,I,R,aj,aH,bq⟩:=hw.live gl x qQ;refine⟨bD,I.only aK (λdT=>e (hw.inj _ _ _ _ qQ ad dT)),R,aj,aH,λi af D ae=>?_⟩;obtain⟨v,cq,de⟩:=bq i af D ae;exact⟨v,cq,de.ext aF⟩
 ·obtain⟨fU,FT⟩:=some_ _ _ I;obtain⟨jV,FU⟩:=some_ _ _ R;exact hw.inj _ _ _ _ FT FU he
 ·have dw:g≠m.cu b:=λe=>by subst e;have:=hw.sep b es ad O;rw[this]at af;cases af
  rw[World.cell?_of_block (w:=w) (aK.block _ (hw.tl af) dw)];exact hw.eP g O v af
 ·obtain⟨y,bH⟩:=some_ _ _ lZ;exact hw.sep _ _ bH O
 ·obtain⟨xs,xg⟩:=hw.rB k ab;exact⟨xs,W4 xg aK (λg a5 e=>by simp at a5;exact hw.oZ k ab b es ad (by rw[a5];exact e.symm))⟩
 ·obtain⟨y,bH⟩:=some_ _ _ lZ;exact hw.oZ k ab _ _ bH
 ·obtain⟨aP,a2,bl,cr,ej⟩:=hw.gN g x ae;refine⟨aP,(aK.block g (hw.xf ae) λe=>bl b es ad e.symm).trans a2,λgl y lZ=>?_,cr,ej⟩;obtain⟨z,aB⟩:=some_ _ _ lZ;exact bl _ _ aB
end
open Go Go.RowKit
structure qR(P:c'):Prop where
 zero:∀t i v,t<P.types.size->P.info? t=o i->i.zero=o v->v.cells.size=i.size
 small:∀t i,t<P.types.size->P.info? t=o i->i.bytes<=100000
 pos:∀t e,t<P.types.size->P.underlying t=o (.slice e)->0<P.cellsOf e
def ep(P:c')(m:ey)(h:ai)(t:List F)(a:Array b'):Prop:=a.size=t.length/\∀i (af:i<t.length),b8 P m h t[i] (a.getD i g0)
def er(P:c')(m:ey)(h:ai)(a:Act)(w:dO)(O:bm)(v:F)(E:ai):Prop:=∃bf bj u,((f' a.eval O).run P w= .ok (.value u) bj\/((f' a.eval O).run P w= .ok .skip bj/\u=g0))/\Ext m h bf E/\cp P bf E bj/\b8 P bf E v u/\Below m.base w bj
section
variable{P:c'}{m bf:ey}{h E:ai}{w bj:dO}{t:List F}{a:Act}{O:bm}
theorem ep.ext(x:Ext m h bf E){vX:Array b'}(r:ep P m h t vX):ep P bf E t vX:=⟨r.1,λi af=>(r.2 i af).ext x⟩
theorem ep.put(r:ep P m h t a.tmps){v:F}{u:b'}(Z:b8 P m h v u)(d:Option Tmp):ep P m h (fN t d v) (a.put d u).tmps:=by
 cases d with
 |none=>exact r
 |some d=>
   refine⟨by simp[fN,Act.put,r.1],λi af=>?_⟩;have fb:i<t.length:=by simpa[fN]using af
   have aw:(fN t (o d) v)[i]=if d=i then v else t[i]:=by simp[fN,List.getElem_set]
   have ay:(a.put (o d) u).tmps.getD i g0=if d=i then u else a.tmps.getD i g0:=by
    have aC:i<a.tmps.size:=by rw[r.1];exact fb
    simp[Act.put,Array.getD,aC,Array.getElem_setIfInBounds]
   rw[aw,ay];by_cases e:d=i
   ·rw[if_pos e,if_pos e];exact Z
   ·rw[if_neg e,if_neg e];exact r.2 i fb
theorem ep.get(r:ep P m h t a.tmps)(i:Nat):b8 P m h (t.getD i .aD) (a.tmps.getD i g0):=by
 by_cases af:i<t.length
 ·have:=r.2 i af;simpa[cZ,af]using this
 ·rw[cZ,mE (by omega)];exact .aD _
theorem JL(v:b'):b8 P m h (z1 v) v:=by
 unfold z1;split
 ·exact .bool _
 ·exact .int _ _
 ·rename_i s;have:=b8.str (P:=P) (m:=m) (h:=h) s.data.toList;simpa using this
 ·exact .e'
 ·exact .aJ
 ·exact .oW
 ·exact .iZ
 ·exact .aD _
theorem anG(v:b'):b8 P m h (Bs v) v:=by
 unfold Bs;split
 ·rename_i cs;have:=b8.agg (P:=P) (m:=m) (h:=h) (cs.toList.map z1) cs.toList (by simp) (λD ae dM=>by simpa using JL _);simpa using this
 ·exact JL v
theorem h4(r:ep P m h t a.tmps)(x:g7):b8 P m h (bM t x) (a.eval x):=by
 cases x with
 |tmp i=>exact r.get i
 |const v=>exact anG v
 |global g=>exact .aD _
 |func f=>exact .fn f [] [] [] [] rfl rfl (λD ae=>by simp at ae) (λD ae=>by simp at ae)
theorem b8.one{v:F}{u:b'}(r:b8 P m h v u)(I:v.one=J):u.oneCell'=J:=by cases r<;>simp_all [F.one,Value.oneCell']
theorem b8.cells{v:F}{u:b'}(r:b8 P m h v u)(I:v.cells.all F.one=J):eb P m h v.cells u.cells.toList/\∀c∈u.cells.toList,c.oneCell'=J:=by
 have key:v.one=J->u.cells= #[u]->v.cells=[v]->eb P m h v.cells u.cells.toList/\∀c∈u.cells.toList,c.oneCell'=J:=by intro Z bV an;rw[bV,an];refine⟨eb.cons r eb.nil,λc an=>?_⟩;simp at an;subst an;exact r.one Z
 cases r with
 |aD v=>simp[F.cells,F.one]at I
 |bS l ch R aj=>simp[F.cells,F.one]at I
 |agg l ch R aj=>
   refine⟨⟨by simpa[F.cells,Value.cells]using R,λD ae dM=>aj D ae (by simpa[Value.cells]using dM)⟩,λc an=>?_⟩;simp[Value.cells]at an;obtain⟨D,ae,rfl⟩:=List.getElem_of_mem an;have ez:D<l.length:=by omega
   simp only[F.cells,jW]at I;exact(aj D ez ae).one (I _ (jl ez))
 |_=>exact key rfl rfl rfl
theorem er.pure(hw:cp P m h w){v:F}(au:(f' a.eval O).run P w= .ok (.value u) w)(Z:b8 P m h v u):er P m h a w O v h:=⟨m,w,u,.inl au,Ext.refl _ _,hw,Z,nq _ _⟩
theorem f9(hl:qR P){e:a9}{z:List F}(aB:lp P e=o z):∃i v,P.info? e=o i/\i.zero=o v/\z.length=P.cellsOf e/\v.cells.size=P.cellsOf e/\eb P m h z v.cells.toList/\(zeroValue e).run P w= .ok v w:=by
 unfold lp at aB;split at aB
 case isFalse=>cases aB
 rename_i ba;rcases af:P.info? e with _|i
 ·simp[af]at aB
 ·rcases Z:i.zero with _|v
  ·simp[af,Z]at aB
  ·simp only[af,Z,du,i3,iF]at aB;have aC:=hl.zero e i v ba af Z;have an:P.cellsOf e=i.size:=by simp[Program.cellsOf,af]
   have au:eb P m h (Bs v).cells v.cells.toList:=by
    unfold Bs;split
    ·rename_i cs;exact⟨by simp[F.cells,Value.cells],λD ae dM=>by simpa[F.cells,Value.cells]using JL _⟩
    ·rename_i dw;have nr:=JL (P:=P) (m:=m) (h:=h) v;have aw:(z1 v).cells=[z1 v]:=by unfold z1;split<;>rfl
     have ay:v.cells= #[v]:=by
      unfold Value.cells;split
      ·rename_i cs;exact absurd rfl (dw cs)
      ·rfl
     rw[aw,ay];exact eb.cons nr eb.nil
   rw[aB]at au;refine⟨i,v,rfl,Z,?_,by rw[aC,an],au,by simp[zeroValue,typeInfo,af,Z]⟩;have:=au.1;rw[Array.length_toList,aC]at this;rw[an];exact this.symm
theorem W8(hw:cp P m h w)(e:a9){z:List F}{u:Array b'}(aB:eb P m h z u.toList)(aC:z.length=P.cellsOf e):∃bf,Ext m h bf (h.push [z])/\cp P bf (h.push [z]) (w.alloc (.cells u e))/\b8 P bf (h.push [z]) (.ptr h.n 0 0) (.pointer (o ⟨w.heap.size,0,ag⟩)):=by
 have bV:u.size=z.length:=by simpa using aB.1
 obtain⟨bf,I,R,aj,aH,bq⟩:=hw.push (w.alloc (.cells u e)) e [z] u ((iR.refl _ w).alloc _) (lG.new w _ _) (by simp;omega) (by simp[aC]) (by
  intro i af D ae;have hg:i=0:=by simpa using af
  subst hg;have dM:D<z.length:=by simpa using ae
  refine⟨u[D]'(by omega),by simp,?_⟩;have:=aB.2 D dM (by simp;omega);simpa using this)
 refine⟨bf,I,R,?_⟩;have:=b8.ptr (P:=P) (m:=bf) (h:=h.push [z]) h.n 0 0 (by simp[ai.push]);rw[aj]at this;simpa using this
theorem anH(hl:qR P)(hw:cp P m h w)(e:a9)(aK:O.op= .alloc e){z:List F}(aB:lp P e=o z):er P m h a w O (.ptr h.n 0 0) (h.push [z]):=by obtain⟨i,v,af,Z,am,aC,au,mC⟩:=f9 (m:=m) (h:=h) (w:=w) hl aB;obtain⟨bf,I,R,aj⟩:=W8 hw e au am;refine⟨bf,_,_,.inl ?_,I,R,aj,(nq _ _).alloc hw.size _⟩;simp[f',aK,Instr.alloc,mC,newVar,newRow]
theorem anI(hl:qR P)(hw:cp P m h w)(e:a9)(aK:O.op= .alloc e){z:List F}(aB:lp P e=o z):er P m h a w O (.gM e h.n) (h.push [z]):=by
 obtain⟨i,v,af,Z,am,aC,au,mC⟩:=f9 (m:=m) (h:=h) (w:=w) hl aB;have bV:v.cells.size=z.length:=by simpa using au.1
 obtain⟨bf,I,R,aj,aH,bq⟩:=hw.push (w.alloc (.cells v.cells e)) e [z] v.cells ((iR.refl _ w).alloc _) (lG.new w _ _) (by simp;omega) (by simp[am]) (by
  intro i af D ae;have hg:i=0:=by simpa using af
  subst hg;have dM:D<z.length:=by simpa using ae
  refine⟨v.cells[D]'(by omega),by simp,?_⟩;have:=au.2 D dM (by simp;omega);simpa using this)
 have az:=b8.gM (P:=P) (m:=bf) (h:=h.push [z]) e h.n (by simp[ai.push]) aH;rw[aj]at az;refine⟨bf,_,_,.inl ?_,I,R,az,(nq _ _).alloc hw.size _⟩;simp[f',aK,Instr.alloc,mC,newVar,newRow]
theorem anJ(hw:cp P m h w)(a6:ep P m h t a.tmps)(e:a9)(x:g7)(aK:O.op= .box e x)(I:(bM t x).cells.all F.one=J)(R:(bM t x).cells.length=dA P e):er P m h a w O (.ptr h.n 0 0) (h.push [(bM t x).cells]):=by obtain⟨aj,aH⟩:=(h4 a6 x).cells I;obtain⟨bf,bq,cq,de⟩:=W8 hw e aj R;refine⟨bf,_,_,.inl ?_,bq,cq,de,(nq _ _).alloc hw.size _⟩;simp[f',aK,Instr.box,newVar,newRow]
theorem anK(hw:cp P m h w)(a6:ep P m h t a.tmps)(e:a9)(x:g7)(aK:O.op= .box e x)(I:(bM t x).cells.all F.one=J)(R:(bM t x).cells.length=dA P e):er P m h a w O (.gM e h.n) (h.push [(bM t x).cells]):=by
 obtain⟨aj,aH⟩:=(h4 a6 x).cells I;have bV:(a.eval x).cells.size=(bM t x).cells.length:=by simpa using aj.1
 have R:(bM t x).cells.length=P.cellsOf e:=R;obtain⟨bf,cF,cA,dK,dR,hC⟩:=hw.push (w.alloc (.cells (a.eval x).cells e)) e [(bM t x).cells] (a.eval x).cells ((iR.refl _ w).alloc _) (lG.new w _ _) (by simp;omega) (by simp[R]) (by
  intro i af D ae;have hg:i=0:=by simpa using af
  subst hg;have dM:D<(bM t x).cells.length:=by simpa using ae
  refine⟨(a.eval x).cells[D]'(by omega),by simp,?_⟩;have:=aj.2 D dM (by simp;omega);simpa using this)
 have az:=b8.gM (P:=P) (m:=bf) (h:=h.push [(bM t x).cells]) e h.n (by simp[ai.push]) dR;rw[dK]at az;refine⟨bf,_,_,.inl ?_,cF,cA,az,(nq _ _).alloc hw.size _⟩;simp[f',aK,Instr.box,newVar,newRow]
theorem O4(ty:a9)(bg:P.underlying ty=o d):(isAgg ty).run P w= .ok (k7 P ty) w:=by unfold isAgg k7;simp only[i',kg bg,i2,bg];cases d<;>simp
theorem W9(hw:cp P m h w){b i:Nat}{e:List F}(au:h.row b i=o e):∃ah:Nat->b',∀D (ae:D<e.length),w.cell? ⟨m.cu b,i*P.cellsOf (m.hQ b)+D,ag⟩=o (ah D)/\b8 P m h e[D] (ah D):=by
 unfold ai.row at au;rcases an:h.cell b with _|es
 ·simp[an]at au
 ·simp only[an,du]at au;obtain⟨af,rfl⟩:=fO.1 au;obtain⟨cs,I,R,aj,aH,bq⟩:=hw.live b es an;refine⟨λD=>(cs[i*P.cellsOf (m.hQ b)+D]?).getD g0,λD ae=>?_⟩;obtain⟨v,cq,de⟩:=bq i af D ae;exact⟨by rw[I.cell];simp[cq],by simpa[cq]using de⟩
theorem JM(ty:a9)(bg:P.underlying ty=o d)(af:P.info? ty≠ag)(g O:Nat)(off:Nat)(e:List F)(ah:Nat->b')(dJ:∀D (ae:D<e.length),w.cell? ⟨g,O+D,ag⟩=o (ah D)/\b8 P m h e[D] (ah D)){v:F}(Z:fZ (k7 P ty) (dA P ty) e off=o v):∃u,(loadVar ty ⟨g,O+off,ag⟩).run P w= .ok u w/\b8 P m h v u:=by
 unfold fZ at Z;unfold loadVar;simp only[i',O4 ty bg,i2];cases vY:k7 P ty
 ·simp only[vY,mF,if_false]at Z ⊢;obtain⟨ae,rfl⟩:=fO.1 Z;obtain⟨I,R⟩:=dJ off ae;exact⟨ah off,by simp[I],R⟩
 ·simp only[vY,if_true]at Z ⊢;split at Z
  ·rename_i hle;injection Z with Z;subst Z;obtain⟨i,af⟩:=Option.ne_none_iff_exists'.1 af;have fa:i.size=dA P ty:=by simp[dA,Program.cellsOf,af]
   have am:=run_loadCells (P:=P) w ⟨g,O+off,ag⟩ (dA P ty) (λD=>ah (off+D)) (λD ae=>by rw[rA];have:=(dJ (off+D) (by omega)).1;rwa [rC]);refine⟨.agg ((jG (dA P ty)).map λD=>ah (off+D)).toArray,?_,?_⟩
   ·simp[sizeOf,typeInfo,af,fa,am]
   ·refine .agg _ _ (by simp;omega) (λD ae dM=>?_);simp only[List.getElem_map,List.getElem_range];have rD:D<dA P ty:=by simpa using dM
    have:=(dJ (off+D) (by omega)).2;simpa[List.getElem_take,List.getElem_drop]using this
  ·cases Z
theorem anL(hw:cp P m h w)(a6:ep P m h t a.tmps)(ty:a9)(x:g7)(aK:O.op= .load ty x)(bg:P.underlying ty=o d)(af:P.info? ty≠ag){v:F}(Z:cR (k7 P ty) (dA P ty) h (bM t x)=o v):er P m h a w O v h:=by
 have aF:=h4 a6 x;have key:∃u,(Instr.loadAt ty (a.eval x)).run P w= .ok u w/\b8 P m h v u:=by
  revert aF Z;generalize a.eval x=JN;generalize bM t x=ex;intro Z aF;obtain⟨W',vZ,dw,am,_⟩:=aF.O2;rw[<-am]at Z;cases vZ with
  |gM t b _ _=>exact absurd rfl (dw t b)
  |ptr b i off ad=>
    simp only[cR]at Z;rcases au:h.row b i with _|e
    ·simp[au]at Z
    ·simp only[au,du]at Z;obtain⟨ah,dJ⟩:=W9 hw au;obtain⟨u,I,R⟩:=JM (w:=w) ty bg af (m.cu b) (i*P.cellsOf (m.hQ b)) off e ah dJ Z;exact⟨u,by simp[Instr.loadAt,Instr.sureAddr,I],R⟩
  |ip e off g fP ah fb k'=>simp only[cR]at Z;obtain⟨u,I,R⟩:=JM (w:=w) (h:=h) (m:=m) ty bg af g fP off e ah (λD ae=>⟨hw.eP _ _ _ (fb D ae),k' D ae⟩) Z;exact⟨u,by simp[Instr.loadAt,Instr.sureAddr,I],R⟩
  |_=>simp[cR]at Z
 obtain⟨u,I,R⟩:=key;exact er.pure hw (by simp[f',aK,I]) R
end
open Go Go.RowKit
theorem O5{α:Type}(l cs:List α)(O:Nat)(h:O+cs.length<=l.length)(D:Nat):(l.take O++cs++l.drop (O+cs.length))[D]? =if O<=D/\D<O+cs.length then cs[D - O]? else l[D]? :=by
 by_cases I:D<O
 ·rw[if_neg (by omega),kS,l0 (by simp;omega)];simp[I]
 ·by_cases R:D<O+cs.length
  ·rw[if_pos (by omega),kS,l1 (by simp;omega),l0 (by simp;omega)];congr 1;simp;omega
  ·rw[if_neg (by omega),l1 (by simp;omega)];rw[List.getElem?_drop];congr 1;simp;omega
theorem p9{i n s:Nat}(h:i<n):i*s+s<=n*s:=by have:(i+1)*s<=n*s:=Nat.mul_le_mul_right s h;rw[Nat.add_mul]at this;omega
section
variable{P:c'}{m bf:ey}{h E:ai}{w bj:dO}{t:List F}{a:Act}{O:bm}
theorem anM(hw:cp P m h w)(a6:ep P m h t a.tmps)(ty:a9)(x y:g7)(aK:O.op= .store ty x y)(af:P.info? ty≠ag)(Z:e0 (dA P ty) h (bM t x) (bM t y)=o E):er P m h a w O .aD E:=by
 have aF:=h4 a6 x;have bH:=h4 a6 y;obtain⟨i0,af⟩:=Option.ne_none_iff_exists'.1 af;have fa:i0.size=dA P ty:=by simp[dA,Program.cellsOf,af]
 have key:∃bj,(Instr.storeAt ty (a.eval x) (a.eval y)).run P w= .ok () bj/\Ext m h m E/\cp P m E bj/\Below m.base w bj:=by
  revert aF Z;generalize a.eval x=JN;generalize bM t x=ex;intro Z aF;obtain⟨W',vZ,dw,_,am⟩:=aF.O2;rw[<-am]at Z;cases vZ with
  |gM t b _ _=>exact absurd rfl (dw t b)
  |ptr b i off ad=>
    simp only[e0]at Z;rcases an:h.cell b with _|es
    ·simp[an]at Z
    ·rcases au:es[i]? with _|e
     ·simp[an,au]at Z
     ·simp only[an,au,du]at Z;split at Z
      ·rename_i la;obtain⟨I,R,aj⟩:=la;injection Z with Z;subst Z;obtain⟨nR,ja⟩:=bH.cells I;obtain⟨cs,pu,qQ,yF,anN,O6⟩:=hw.live b es an;obtain⟨JO,O7⟩:=fO.1 au;have kT:e.length=P.cellsOf (m.hQ b):=by rw[<-O7];exact yF _ (jl JO)
       generalize cw:P.cellsOf (m.hQ b)=S at*;have DG:(a.eval y).cells.toList.length=dA P ty:=by rw[nR.1,R]
       have DH:(a.eval y).cells.size=dA P ty:=by simpa using DG
       have aDl:=p9 (s:=S) JO;have mC:=run_storeCells_at (P:=P) (m.cu b) (i*S+off) (m.hQ b) (a.eval y).cells.toList 0 cs w pu (by rw[DG];omega) ja;have kh:iR (λk=>k=m.cu b) w (w.setRow (m.cu b) (cs.toList.take (i*S+off+0)++(a.eval y).cells.toList++cs.toList.drop (i*S+off+0+(a.eval y).cells.toList.length)).toArray):=⟨rfl,rfl,rfl,by simp[World.setRow],λk _ ab=>setRow_other w _ k _ ab⟩;have hlen:((cs.toList.take (i*S+off+0)++(a.eval y).cells.toList++cs.toList.drop (i*S+off+0+(a.eval y).cells.toList.length)).toArray).size=cs.size:=by simp only[List.size_toArray,fz,pv,List.length_drop,Array.length_toList,DH];omega
       have anO:=setRow_heap w _ cs (cs.toList.take (i*S+off+0)++(a.eval y).cells.toList++cs.toList.drop (i*S+off+0+(a.eval y).cells.toList.length)).toArray _ _ pu;have anP:∀k,k<m.base->(w.setRow (m.cu b) (cs.toList.take (i*S+off+0)++(a.eval y).cells.toList++cs.toList.drop (i*S+off+0+(a.eval y).cells.toList.length)).toArray).heap[k]? =w.heap[k]? :=λk ab=>setRow_other w _ k _ (λe=>by have:=(hw.lt b es an).2;omega);generalize w.setRow (m.cu b) (cs.toList.take (i*S+off+0)++(a.eval y).cells.toList++cs.toList.drop (i*S+off+0+(a.eval y).cells.toList.length)).toArray=cx at*;refine⟨cx,by simp[Instr.storeAt,Instr.sureAddr,storeVar,sizeOf,typeInfo,af,fa,DH,mC],?_⟩;obtain⟨jX,ck⟩:=hw.JK an (gS:=es.set i (dy e off (bM t y).cells)) kh _ anO (by rw[hlen,qQ]) (by
        intro r hR;rw[cw];rcases List.mem_or_eq_of_mem_set hR with aX|aX
        ·exact yF r aX
        ·rw[aX,dy];simp only[fz,pv,List.length_drop];omega) (by rw[hlen,cw,List.length_set];exact anN) (by
        intro kU fb D ae;rw[cw];have iG:kU<es.length:=by simpa using fb
        simp only[List.getElem?_toArray];rw[O5 _ _ _ (by rw[DG];simp;omega)];by_cases aw:kU=i
        ·subst aw;have me:(es.set kU (dy e off (bM t y).cells))[kU]=dy e off (bM t y).cells:=by simp
         have dM:D<(dy e off (bM t y).cells).length:=by rw[me]at ae;exact ae
         have a5:(dy e off (bM t y).cells)[D]? =o (dy e off (bM t y).cells)[D]:=fT dM;have lq:(e.take off++(bM t y).cells++e.drop (off+(bM t y).cells.length))[D]? =o (dy e off (bM t y).cells)[D]:=a5;rw[O5 _ _ _ (by omega)]at lq;have Xa:∀v,b8 P m h (dy e off (bM t y).cells)[D] v->b8 P m h (es.set kU (dy e off (bM t y).cells))[kU][D] v:=by intro v Z;simpa only[me]using Z
         by_cases ay:off<=D/\D<off+(bM t y).cells.length
         ·rw[if_pos ay]at lq;rw[if_pos (by rw[DG];omega)];obtain⟨u,ns,l2⟩:=nR.get? lq;refine⟨u,?_,Xa u l2⟩;rw[<-ns];congr 1;omega
         ·rw[if_neg ay]at lq;rw[if_neg (by rw[DG];omega)];obtain⟨anQ,vV⟩:=fO.1 lq;obtain⟨v,o0,iq⟩:=O6 kU iG D (by rw[O7];exact anQ);refine⟨v,by simpa using o0,Xa v ?_⟩;rw[<-vV];simpa only[O7]using iq
        ·have me:(es.set i (dy e off (bM t y).cells))[kU]=es[kU]:=by simp[mG aw]
         have dM:D<es[kU].length:=by rw[me]at ae;exact ae
         have aDm:D<S:=by rw[yF _ (jl iG)]at dM;exact dM
         rw[if_neg (by
          rw[DG];rcases Nat.lt_or_gt_of_ne aw with aX|aX
          ·have:=p9 (s:=S) aX;omega
          ·have:=p9 (s:=S) aX;omega)]
         obtain⟨v,o0,iq⟩:=O6 kU iG D dM;exact⟨v,by simpa using o0,by simpa only[me]using iq⟩)
       exact⟨jX,ck,⟨kh.os,kh.tape,kh.output,kh.size,anP⟩⟩
      ·cases Z
  |_=>simp[e0]at Z
 obtain⟨bj,I,R,aj,aH⟩:=key;exact⟨m,bj,g0,.inr ⟨by simp[f',aK,I],rfl⟩,R,aj,.aD _,aH⟩
end
open Go Go.RowKit
section
variable{P:c'}{m bf:ey}{h E:ai}{w bj:dO}{t:List F}{a:Act}{O:bm}
theorem Xb(hw:cp P m h w)(a6:ep P m h t a.tmps)(x:g7)(aK:O.op= .move x\/O.op= .assign x):er P m h a w O (bM t x) h:=by refine er.pure hw (u:=a.eval x) ?_ (h4 a6 x);rcases aK with aK|aK<;>simp[f',aK]
theorem anR(hw:cp P m h w)(a6:ep P m h t a.tmps)(c x y:g7)(aK:O.op= .pick c x y){b:Bool}(ad:bM t c= .bool b):er P m h a w O (if b then bM t x else bM t y) h:=by
 have an:=h4 a6 c;rw[ad]at an;obtain⟨u,bV⟩:∃u,a.eval c=u:=⟨_,rfl⟩;rw[bV]at an;cases an;cases b
 ·exact er.pure hw (u:=a.eval y) (by simp[f',aK,bV,asBool]) (by simpa using h4 a6 y)
 ·exact er.pure hw (u:=a.eval x) (by simp[f',aK,bV,asBool]) (by simpa using h4 a6 x)
theorem anS(hw:cp P m h w)(a6:ep P m h t a.tmps)(x:g7)(aK:O.op= .nilCheck x){v:F}(Z:bM t x=v)(ab:(match v with|.ptr .. |.gM .. |.ip .. |.fn .. |.iface .. =>J|_=>U)=J):er P m h a w O v h:=by have an:=h4 a6 x;rw[Z]at an;obtain⟨u,bV⟩:∃u,a.eval x=u:=⟨_,rfl⟩;rw[bV]at an;refine er.pure hw (u:=u) ?_ an;cases an<;>simp at ab<;>simp[f',aK,bV]
theorem anT(hw:cp P m h w)(a6:ep P m h t a.tmps)(op:UnOp)(ty:a9)(x:g7)(aK:O.op= .unOp op ty x){v:F}(Z:Bt op (bM t x)=o v):er P m h a w O v h:=by
 have an:=h4 a6 x;revert Z an;obtain⟨u,bV⟩:∃u,a.eval x=u:=⟨_,rfl⟩;rw[bV];generalize bM t x=ex;intro Z an;cases op<;>cases an<;>simp[Bt]at Z
 ·subst Z;exact er.pure hw (u:=.int _ _) (by simp[f',aK,bV,Op.unary,Op.intArith]) (.int _ _)
 ·subst Z;exact er.pure hw (u:=.bool _) (by simp[f',aK,bV,Op.unary]) (.bool _)
theorem anU(hw:cp P m h w)(a6:ep P m h t a.tmps)(src dst:a9)(x:g7)(aK:O.op= .convert src dst x){v:F}(aC:(P.underlying src).isNone=U)(Z:z2 (iE P dst) (bM t x)=o v):er P m h a w O v h:=by
 have an:=h4 a6 x;revert Z an;obtain⟨u,bV⟩:∃u,a.eval x=u:=⟨_,rfl⟩;rw[bV];generalize bM t x=ex;intro Z an;obtain⟨jm,Xc⟩:∃jm,P.underlying src=o jm:=Option.isSome_iff_exists.1 (by simpa[<-Option.not_isSome]using aC);unfold iE at Z;rcases bg:P.underlying dst with _|JP
 ·simp[bg,z2]at Z
 ·rw[bg]at Z;cases JP<;>cases an<;>simp[z2]at Z
  ·subst Z;exact er.pure hw (u:=.int _ _) (by simp only[f',aK,bV,convert,i',kg Xc,kg bg,i2];cases jm<;>simp[Conv.intToInt]<;>rfl) (.int _ _)
  ·subst Z;exact er.pure hw (u:=.string _) (by simp only[f',aK,bV,convert,i',kg Xc,kg bg,i2];cases jm<;>simp<;>rfl) (.str _)
theorem Xd(hw:cp P m h w)(a6:ep P m h t a.tmps)(ty:a9)(x:g7)(aK:O.op= .makeInterface ty x)(az:yv P ty=J):er P m h a w O (.iface ty (bM t x)) h:=by
 unfold yv at az;rcases bg:P.underlying ty with _|d
 ·simp[bg]at az
 ·refine er.pure hw (u:=.iface ty (a.eval x)) ?_ (.iface _ _ _ (h4 a6 x));rw[bg]at az;simp only[f',aK,Instr.makeInterface,i',kg bg,i2];cases d<;>simp at az ⊢
theorem anV(hw:cp P m h w)(a6:ep P m h t a.tmps)(g:di)(first captured:Array g7)(aK:O.op= .makeFunc (.func g) first captured):er P m h a w O (.fn g (first.toList.map (bM t)) (captured.toList.map (bM t))) h:=by
 have I:=eb.map (P:=P) (m:=m) (h:=h) (f:=bM t) (g:=a.eval) (l:=first.toList) (λx _=>h4 a6 x);have R:=eb.map (P:=P) (m:=m) (h:=h) (f:=bM t) (g:=a.eval) (l:=captured.toList) (λx _=>h4 a6 x);refine er.pure hw (u:=.func (.func g) (first.toList.map a.eval).toArray (captured.toList.map a.eval).toArray) ?_ (.fn _ _ _ _ _ I.1 R.1 I.2 R.2);simp only[f',aK,Instr.makeFunc,i',mD,i2];have e:∀xs:Array g7,(xs.toList.map a.eval).toArray=xs.map a.eval:=λxs=>by apply Array.ext';simp
 rw[e,e]
theorem anW(hw:cp P m h w)(a6:ep P m h t a.tmps)(x:g7)(i:Nat)(aK:O.op= .extract x i){bI:List F}{v:F}(Z:bM t x= .bS bI)(af:bI[i]? =o v):er P m h a w O v h:=by
 have an:=h4 a6 x;rw[Z]at an;obtain⟨u,bV⟩:∃u,a.eval x=u:=⟨_,rfl⟩;rw[bV]at an;cases an with
 |bS _ ch I aj=>obtain⟨y,FT,FU⟩:=eb.get? (l:=bI) (ch:=ch) ⟨I,aj⟩ af;exact er.pure hw (u:=y) (by simp[f',aK,bV,Instr.extract,FT]) FU
theorem anX(hw:cp P m h w)(a6:ep P m h t a.tmps)(x:g7)(FV aS:a9)(ok:Bool)(aK:O.op= .typeAssert x FV aS ok){v:F}(Z:bM t x= .iface aS v)(az:yv P aS=J):er P m h a w O (if ok then .bS [v,.bool J]else v) h:=by
 have an:=h4 a6 x;rw[Z]at an;obtain⟨u,bV⟩:∃u,a.eval x=u:=⟨_,rfl⟩;rw[bV]at an;unfold yv at az;rcases bg:P.underlying aS with _|d
 ·simp[bg]at az
 ·rw[bg]at az;cases an with
  |iface _ _ a' I=>
    cases ok
    ·refine er.pure hw (u:=a') ?_ I;simp only[f',aK,bV,Instr.typeAssert,i',kg bg,i2];cases d<;>simp at az ⊢
    ·refine er.pure hw (u:=.tuple [a',.bool J].toArray) ?_ ?_
     ·simp only[f',aK,bV,Instr.typeAssert,i',kg bg,i2];cases d<;>simp at az ⊢
     ·have:=eb.cons I (eb.cons (b8.bool J) eb.nil);exact .bS _ _ this.1 this.2
theorem ss{q:a9}(aX:dA P q≠0):∃i,P.info? q=o i/\i.size=dA P q:=by
 unfold dA Program.cellsOf at*;rcases af:P.info? q with _|i
 ·simp[af]at aX
 ·exact⟨i,rfl,by simp⟩
theorem Xe{q:a9}(bg:P.underlying q=o d):∃i,P.info? q=o i:=by
 unfold Program.underlying at bg;rcases af:P.info? q with _|i
 ·simp[af]at bg
 ·exact⟨i,rfl⟩
theorem Xf{s:a9}{f:Nat}{q:Nat×a9}(aX:((ux P s).bind (·[f]?))=o q):∃dN v0,P.underlying s=o (.struct dN)/\dN[f]? =o v0/\v0.offset=q.1/\v0.type=q.2:=by
 unfold ux at aX;split at aX
 ·rename_i dN xh;simp at aX;obtain⟨v0,I,R⟩:=aX;exact⟨dN,v0,xh,I,by rw[<-R],by rw[<-R]⟩
 ·simp at aX
theorem anY(hw:cp P m h w)(a6:ep P m h t a.tmps)(s:a9)(x:g7)(f:Nat)(aK:O.op= .fieldAddr s x f){q:Nat×a9}(aX:((ux P s).bind (·[f]?))=o q)(aB:dA P q.2≠0){v:F}(Z:cd q.1 (bM t x)=o v):er P m h a w O v h:=by
 obtain⟨dN,v0,I,R,aj,aH⟩:=Xf aX;obtain⟨i0,hg,jn⟩:=ss aB;have an:=h4 a6 x;revert Z an;obtain⟨u,bV⟩:∃u,a.eval x=u:=⟨_,rfl⟩;rw[bV];generalize bM t x=ex;intro Z an;have run:∀g off,(f' a.eval O).run P w= .ok (.value (.pointer (o ⟨g,off+q.1,ag⟩))) w\/u≠.pointer (o ⟨g,off,ag⟩):=by
  intro g off;by_cases Xg:u= .pointer (o ⟨g,off,ag⟩)
  ·left;subst Xg;simp only[f',aK,bV,Instr.fieldAt,i',kg I,i2,R,Instr.sureAddr,mD,fieldPlace,aH,sizeOf,typeInfo,run_program,hg,jn,aB,if_false,aj,rA]
  ·exact .inr Xg
 cases an<;>simp[cd]at Z
 ·rename_i b i off ad;subst Z;refine er.pure hw (u:=.pointer (o ⟨m.cu b,i*P.cellsOf (m.hQ b)+(off+q.1),ag⟩)) ?_ (.ptr b i _ ad);have:=(run (m.cu b) (i*P.cellsOf (m.hQ b)+off)).resolve_right (by simp);rwa [rC]at this
 ·rename_i dQ b ad O8;have:=(run (m.cu b) 0).resolve_right (by simp);rw[ir]at this;by_cases pw:q.1=0
  ·rw[if_pos pw]at Z;subst Z;rw[pw]at this;exact er.pure hw this (.gM _ b ad O8)
  ·rw[if_neg pw]at Z;subst Z;have az:=b8.ptr (P:=P) (m:=m) (h:=h) b 0 q.1 ad;rw[Nat.zero_mul,ir]at az;exact er.pure hw this az
 ·rename_i e off g fP ah af k';subst Z;refine er.pure hw (u:=.pointer (o ⟨g,fP+(off+q.1),ag⟩)) ?_ (.ip e _ g fP ah af k');have:=(run g (fP+off)).resolve_right (by simp);rwa [rC]at this
end
open Go Go.RowKit
section
variable{P:c'}{m bf:ey}{h E:ai}{w bj:dO}{t:List F}{a:Act}{O:bm}
theorem Xh(ty:a9)(bg:P.underlying ty=o d)(aB:dA P ty≠0){cs:List F}{hB:List b'}(au:eb P m h cs hB)(off:Nat){v:F}(Z:fZ (k7 P ty) (dA P ty) cs off=o v):∃u,(part ty hB.toArray off).run P w= .ok u w/\b8 P m h v u:=by
 obtain⟨i0,hg,jn⟩:=ss aB;unfold fZ at Z;unfold part;simp only[i',O4 ty bg,i2];cases vY:k7 P ty
 ·simp only[vY,mF,if_false]at Z ⊢;obtain⟨u,I,R⟩:=au.get? Z;exact⟨u,by simp[I],R⟩
 ·simp only[vY,if_true]at Z ⊢;split at Z
  ·rename_i hle;injection Z with Z;subst Z;refine⟨.agg ((hB.drop off).take (dA P ty)).toArray,?_,?_⟩
   ·simp[sizeOf,typeInfo,hg,jn]
   ·refine .agg _ _ (by simp[au.1]) (λD ae dM=>?_);simp only[List.getElem_take,List.getElem_drop];exact au.2 _ _ _
  ·cases Z
theorem anZ(hw:cp P m h w)(a6:ep P m h t a.tmps)(s:a9)(x:g7)(f:Nat)(aK:O.op= .field s x f){q:Nat×a9}(aX:((ux P s).bind (·[f]?))=o q)(aB:dA P q.2≠0)(l2:P.underlying q.2≠ag){cs:List F}{v:F}(aF:bM t x= .agg cs)(Z:fZ (k7 P q.2) (dA P q.2) cs q.1=o v):er P m h a w O v h:=by
 obtain⟨dN,v0,I,R,aj,aH⟩:=Xf aX;have an:=h4 a6 x;rw[aF]at an;obtain⟨u,bV⟩:∃u,a.eval x=u:=⟨_,rfl⟩;rw[bV]at an;obtain⟨d,bg⟩:=Option.ne_none_iff_exists'.1 l2;cases an with
 |agg _ ch cS eQ=>obtain⟨g8,bx,bL⟩:=Xh (w:=w) q.2 bg aB (cs:=cs) (hB:=ch) ⟨cS,eQ⟩ q.1 Z;refine er.pure hw (u:=g8) ?_ bL;simp[f',aK,bV,Instr.field,kg I,R,asAgg,aj,aH,bx]
theorem tn{e:a9}(he:kN P ty=o e):P.underlying ty=o (.slice e):=by
 unfold kN at he;split at he
 case isFalse=>cases he
 split at he
 ·rename_i dT I;injection he with he;rw[I,he]
 ·cases he
theorem yG(hl:qR P){e:a9}(he:kN P ty=o e):0<P.cellsOf e:=by
 have h:=he;unfold kN at h;split at h
 ·rename_i ba;exact hl.pos ty e ba (tn he)
 ·cases h
theorem Xi{e:a9}{z:List F}(aB:lp P e=o z):e<P.types.size:=by
 unfold lp at aB;split at aB
 ·assumption
 ·cases aB
theorem JQ{q:Nat×a9}(he:sp P ty=o q):P.underlying ty=o (.array q.1 q.2):=by
 unfold sp at he;split at he
 ·rename_i n e I;injection he with he;rw[I,<-he]
 ·cases he
theorem an0(hl:qR P)(hw:cp P m h w)(a6:ep P m h t a.tmps)(ty:a9)(x bJ:g7)(aK:O.op= .indexAddr ty x bJ){v:F}(Z:rv P ty (bM t x) (bM t bJ)=o v):er P m h a w O v h:=by
 have an:=h4 a6 x;have ab:=h4 a6 bJ;revert Z an ab;obtain⟨u,bV⟩:∃u,a.eval x=u:=⟨_,rfl⟩;obtain⟨FW,yH⟩:∃FW,a.eval bJ=FW:=⟨_,rfl⟩;rw[bV,yH];generalize bM t x=ex;generalize bM t bJ=ev;intro Z an ab;cases an with
 |oY e eR cap=>
   cases ab with
   |int Bx k=>
     simp only[rv]at Z;split at Z
     ·simp at Z
     ·cases Z
   |_=>simp[rv]at Z
 |b5 id e es g fP cap ah am af uF kQ By=>
   cases ab with
   |int Bx k=>
     simp only[rv]at Z;split at Z
     ·rename_i la;obtain⟨he,lH⟩:=la;have kT:=tn he;have ol:=yG hl he;obtain⟨r,au,Z⟩:=ed.1 Z;obtain⟨ba,rE⟩:=fO.1 au;obtain⟨i0,hg,jn⟩:=ss (P:=P) (q:=e) (by unfold dA;omega);have hlen:r.length=P.cellsOf e:=am r (rE ▸ jl ba);subst Z;refine er.pure hw (u:=.pointer (o ⟨g,fP+k.toNat*P.cellsOf e+0,ag⟩)) ?_ (.ip r 0 g (fP+k.toNat*P.cellsOf e) (ah k.toNat) ?_ ?_)
      ·have Xj:k<(es.length:Int):=by omega
       have I:i0.size=P.cellsOf e:=jn;simp only[f',aK,bV,yH,Instr.indexAt,asIntOf,i',mD,i2,kg kT,lH,Xj,and_self,if_true,sizeOf,typeInfo,run_program,hg,I,rA,Nat.add_zero]
      ·intro D ae;rw[rC];exact af k.toNat ba D (by omega)
      ·intro D ae;have:=uF k.toNat ba D (by rw[rE];exact ae);simpa only[rE]using this
     ·cases Z
   |_=>simp[rv]at Z
 |bw b fP n e cap ad rF kQ aA kR=>
   cases ab with
   |int Bx k=>
     simp only[rv]at Z;split at Z
     ·rename_i la;obtain⟨he,lH,Bz⟩:=la;have kT:=tn he;have ol:=yG hl he;obtain⟨i0,hg,jn⟩:=ss (P:=P) (q:=e) (by unfold dA;omega);injection Z with Z;subst Z;have az:=b8.ptr (P:=P) (m:=m) (h:=h) b (fP+k.toNat) 0 ad;rw[rF]at az;refine er.pure hw (u:=.pointer (o ⟨m.cu b,(fP+k.toNat)*P.cellsOf e+0,ag⟩)) ?_ az;have I:i0.size=P.cellsOf e:=jn;simp only[f',aK,bV,yH,Instr.indexAt,asIntOf,i',mD,i2,kg kT,lH,Bz,and_self,if_true,sizeOf,typeInfo,run_program,hg,I,rA,Nat.add_zero,Nat.add_mul]
     ·cases Z
   |_=>simp[rv]at Z
 |ptr b i off ad=>
   cases ab with
   |int Bx k=>
     simp only[rv]at Z;obtain⟨q,aX,Z⟩:=dX.1 Z;split at Z
     ·rename_i la;obtain⟨aB,lH,Bz⟩:=la;have BA:=JQ aX;obtain⟨i0,hg,jn⟩:=ss aB;injection Z with Z;subst Z;have az:=b8.ptr (P:=P) (m:=m) (h:=h) b i (off+k.toNat*dA P q.2) ad;refine er.pure hw (u:=_) ?_ az;simp only[f',aK,bV,yH,Instr.indexAt,asIntOf,Instr.sureAddr,i',mD,i2,kg BA,lH,Bz,and_self,if_true,sizeOf,typeInfo,run_program,hg,jn,rA,rC]
     ·cases Z
   |_=>simp[rv]at Z
 |ip e off g fP ah af uF=>
   cases ab with
   |int Bx k=>
     simp only[rv]at Z;obtain⟨q,aX,Z⟩:=dX.1 Z;split at Z
     ·rename_i la;obtain⟨aB,lH,Bz⟩:=la;have BA:=JQ aX;obtain⟨i0,hg,jn⟩:=ss aB;injection Z with Z;subst Z;have az:=b8.ip (P:=P) (m:=m) (h:=h) e (off+k.toNat*dA P q.2) g fP ah af uF;refine er.pure hw (u:=_) ?_ az;simp only[f',aK,bV,yH,Instr.indexAt,asIntOf,Instr.sureAddr,i',mD,i2,kg BA,lH,Bz,and_self,if_true,sizeOf,typeInfo,run_program,hg,jn,rA,rC]
     ·cases Z
   |_=>simp[rv]at Z
 |_=>simp[rv]at Z
theorem an1(l:List UInt8)(n:Nat):(⟨l.toArray⟩:ByteArray)[n]? =l[n]? :=by
 by_cases aA:n<l.length
 ·rw[ByteArray.getElem?_lt' _ _ (by simpa[ByteArray.size]using aA),fT aA];rfl
 ·rw[ByteArray.getElem?_ge' _ _ (by simpa[ByteArray.size]using aA),mE (by omega)]
theorem an2(hw:cp P m h w)(a6:ep P m h t a.tmps)(ty:a9)(x bJ:g7)(aK:O.op= .index ty x bJ){v:F}(Z:yx P ty (bM t x) (bM t bJ)=o v):er P m h a w O v h:=by
 have an:=h4 a6 x;have ab:=h4 a6 bJ;revert Z an ab;obtain⟨u,bV⟩:∃u,a.eval x=u:=⟨_,rfl⟩;obtain⟨FW,yH⟩:∃FW,a.eval bJ=FW:=⟨_,rfl⟩;rw[bV,yH];generalize bM t x=ex;generalize bM t bJ=ev;intro Z an ab;cases an with
 |str l=>
   cases ab with
   |int Bx k=>
     simp only[yx]at Z;split at Z
     ·rename_i la;obtain⟨aC,lH⟩:=la;obtain⟨c,xi,Z⟩:=ed.1 Z;subst Z;unfold p4 at aC;split at aC
      ·rename_i p';refine er.pure hw (u:=.int .u8 c.toNat) ?_ (.int _ _);simp only[f',aK,bV,yH,Instr.index,asIntOf,i',mD,i2,kg p',lH,if_true,an1,xi]
      ·cases aC
     ·cases Z
   |_=>simp[yx]at Z
 |agg cs ch cS eQ=>
   cases ab with
   |int Bx k=>
     simp only[yx]at Z;obtain⟨q,aX,Z⟩:=dX.1 Z;split at Z
     ·rename_i la;obtain⟨an3,aB,lH,Bz⟩:=la;have BA:=JQ aX;obtain⟨i0,hg,jn⟩:=ss aB;obtain⟨d,bg⟩:=Option.isSome_iff_exists.1 an3;obtain⟨g8,bx,bL⟩:=Xh (w:=w) q.2 bg aB (cs:=cs) (hB:=ch) ⟨cS,eQ⟩ _ Z;refine er.pure hw (u:=g8) ?_ bL;simp only[f',aK,bV,yH,Instr.index,asIntOf,i',mD,i2,kg BA,lH,Bz,and_self,if_true,sizeOf,typeInfo,run_program,hg,jn,bx]
     ·cases Z
   |_=>simp[yx]at Z
 |_=>simp[yx]at Z
end
open Go Go.RowKit
section
variable{P:c'}{m bf:ey}{h E:ai}{w bj:dO}{t:List F}{a:Act}{O:bm}
theorem JR(l:List UInt8):(⟨l.toArray⟩:ByteArray).size=l.length:=by show l.toArray.size=_;simp
theorem Xk(hw:cp P m h w)(a6:ep P m h t a.tmps)(od:Bool)(x y:g7)(c:Call)(aK:O.op= .call c)(an:c.callee= .builtin (if od then .max else .min))(aV:c.args= #[x,y]){v:F}(aA:z3 od (bM t x) (bM t y)=o v):er P m h a w O v h:=by
 have jY:=h4 a6 x;have su:=h4 a6 y;revert aA jY su;obtain⟨u,bV⟩:∃u,a.eval x=u:=⟨_,rfl⟩;obtain⟨g8,nS⟩:∃u,a.eval y=u:=⟨_,rfl⟩;rw[bV,nS];generalize bM t x=ex;generalize bM t y=yI;intro aA jY su;unfold z3 at aA;split at aA
 ·injection aA with aA;subst aA;cases jY;cases su;obtain⟨callee,args,argTypes⟩:=c;simp only at an aV;subst an aV;cases od
  ·refine er.pure hw (u:=.int _ _) ?_ (.int _ _);simp[f',aK,bV,nS,resolve,invoke,builtin,Builtin.min_,Builtin.min2]
  ·refine er.pure hw (u:=.int _ _) ?_ (.int _ _);simp[f',aK,bV,nS,resolve,invoke,builtin,Builtin.max_,Builtin.max2]
 ·cases aA
theorem an4(hw:cp P m h w)(a6:ep P m h t a.tmps)(x:g7)(ty:a9)(rG:List a9)(aK:O.op= .call {callee:=.builtin .len,args:= #[x],argTypes:=(ty::rG).toArray}){n:Nat}(bo:yw P ty (bM t x)=J)(aA:hX (bM t x)=o n):er P m h a w O (JC n) h:=by
 have an:=h4 a6 x;revert bo aA an;obtain⟨u,bV⟩:∃u,a.eval x=u:=⟨_,rfl⟩;rw[bV];generalize bM t x=ex;intro bo aA an;refine er.pure hw (u:=.int j n) ?_ (.int _ _);have pre:(f' a.eval O).run P w=((Builtin.len_ (ty::rG).toArray O.type #[u]).run P w).andThen λv bj=>.ok (.value v) bj:=by simp[f',aK,resolve,invoke,builtin,bV]
 rw[pre];cases an<;>simp[hX,yw]at bo aA
 ·subst aA;unfold p4 at bo;split at bo
  ·rename_i bg;simp[Builtin.len_,kg bg,goInt,JR]
  ·cases bo
 ·subst aA;unfold JD at bo;obtain⟨e,he⟩:=Option.isSome_iff_exists.1 bo;simp[Builtin.len_,kg (tn he),goInt]
 all_goals
  subst aA;simp[Builtin.len_,kg (tn bo),goInt]
def DI:b'->b'->Bool
 |.nilIface,.nilIface=>U
 |.agg _,.agg _=>U
 |_,_=>J
theorem an5(op:BinOp)(ty:a9)(x y:g7)(u v:b')(dw:DI u v=J):(eqGuard op ty x y u v).run P w= .ok () w:=by cases op<;>first|rfl|(cases u<;>first|rfl|(cases v<;>first|rfl|simp[DI]at dw))
theorem JS(op:BinOp)(ty uG:a9)(x y:g7)(aK:O.op= .binOp op ty x y uG){v r:b'}(bV:a.eval x=u)(Z:a.eval y=v)(dw:DI u v=J)(au:(binOp op ty u v).run P w= .ok r w):(f' a.eval O).run P w= .ok (.value r) w:=by simp only[f',aK,bV,Z,i',an5 op ty x y u v dw,i2,au,mD]
theorem an6(op:BinOp)(ty:a9)(k ee:gZ)(x y:Int){v:F}(fj:kO)(Z:eO fj op (.int k x) (.int ee y)=o v):∃r,(binOp op ty (.int k x) (.int ee y)).run P w= .ok r w/\b8 P m h v r:=by
 cases op
 case shl=>
  simp only[eO]at Z;split at Z
  ·cases Z
  ·rename_i ak;injection Z with Z;subst Z;exact⟨_,by simp[binOp,Op.shift,ak],.int _ _⟩
 case shr=>
  simp only[eO]at Z;split at Z
  ·cases Z
  ·rename_i ak;injection Z with Z;subst Z;exact⟨_,by simp[binOp,Op.shift,ak],.int _ _⟩
 case rem=>
  simp only[eO]at Z;split at Z
  ·rename_i ab;subst ab;simp only[p5]at Z;split at Z
   ·cases Z
   ·rename_i ak;injection Z with Z;subst Z;exact⟨_,by simp[binOp,Op.intDiv,ak],.int _ _⟩
  ·cases Z
 all_goals
  simp only[eO]at Z;split at Z
  ·rename_i ab;subst ab
   first
   |(simp only[p5]at Z;injection Z with Z;subst Z;first
     |(refine⟨_,?_,.int _ _⟩;simp[binOp,Op.intArith];done)
     |(refine⟨_,?_,.int _ _⟩;simp[binOp,Op.intBits];done)
     |(refine⟨_,?_,.bool _⟩;simp[binOp,Op.intCmp];done))
   |(simp[p5]at Z)
  ·cases Z
theorem an7(op:BinOp)(ty:a9)(x y:List UInt8){v:F}(fj:kO)(Z:eO fj op (.str x) (.str y)=o v):∃r,(binOp op ty (.string ⟨x.toArray⟩) (.string ⟨y.toArray⟩)).run P w= .ok r w/\b8 P m h v r:=by
 cases op<;>simp only[eO]at Z<;>try (cases Z;done)
 ·split at Z
  ·rename_i hle;injection Z with Z;subst Z;refine⟨.string ⟨(x++y).toArray⟩,?_,.str _⟩;have I:¬(j.max<(x.length:Int)+(y.length:Int)):=by simp[IntKind.max,IntKind.bits,IntKind.signed];omega
   have e:(⟨x.toArray⟩:ByteArray)++⟨y.toArray⟩=⟨(x++y).toArray⟩:=by apply ByteArray.ext;simp
   simp[binOp,Op.stringOp,JR,e];omega
  ·cases Z
 ·injection Z with Z;subst Z;exact⟨_,by simp[binOp,Op.stringOp],.bool _⟩
 ·injection Z with Z;subst Z;exact⟨_,by simp[binOp,Op.stringOp,bne],.bool _⟩
theorem Xl(ty:a9){x y:F}{v:b'}{b:Bool}(ad:pr (iE P ty) x y=o b)(aF:b8 P m h x u)(bH:b8 P m h y v):DI u v=J/\(binOp .eql ty u v).run P w= .ok (.bool b) w/\(binOp .neq ty u v).run P w= .ok (.bool !b) w:=by
 have ab:(iE P ty= .bool\/iE P ty= .ptr\/iE P ty= .slice)\/(iE P ty= .func\/iE P ty= .iface):=by revert ad;generalize iE P ty=fj;intro ad;unfold pr at ad;split at ad<;>simp_all
 rcases ab with(ab|ab|ab)|(ab|ab)
 all_goals
  have bg:=ab;unfold iE at bg;rw[ab]at ad;split at bg<;>simp at bg
 all_goals
  rename_i o1;have ki:∀{u v:b'},DI u v=J->(∀d,(Op.equalIn (d+1) ty u v).run P w= .ok b w)->(∀op,op=BinOp.eql\/op=BinOp.neq->binOp op ty u v=(match op with|.eql=>(do pure (.bool (<-Op.equal ty u v)))|_=>(do pure (.bool (!(<-Op.equal ty u v)))):Sem b'))->DI u v=J/\(binOp .eql ty u v).run P w= .ok (.bool b) w/\(binOp .neq ty u v).run P w= .ok (.bool !b) w:=by
   intro u v I R aj;have aH:(Op.equal ty u v).run P w= .ok b w:=R 9999;refine⟨I,?_,?_⟩
   ·rw[aj _ (.inl rfl)];simp[aH]
   ·rw[aj _ (.inr rfl)];simp[aH]
  cases aF<;>simp[pr]at ad<;>cases bH<;>simp at ad<;>(try subst ad)<;>refine ki rfl (λd=>?_) (λop aK=>by rcases aK with rfl|rfl<;>rfl)<;>simp[Op.equalIn,kg o1]
end
open Go Go.RowKit
section
variable{P:c'}{m bf:ey}{h E:ai}{w bj:dO}{t:List F}{a:Act}{O:bm}
theorem an8{k:gZ}(ab:iE P ty= .int k):P.underlying ty=o (.int k):=by unfold iE at ab;split at ab<;>simp at ab;rename_i I;rw[I,ab]
theorem an9(ab:iE P ty= .bool):P.underlying ty=o .bool:=by unfold iE at ab;split at ab<;>simp at ab;assumption
theorem an'(ab:iE P ty= .str):P.underlying ty=o .string:=by unfold iE at ab;split at ab<;>simp at ab;assumption
theorem Xm(ty:a9)(bg:P.underlying ty=o d)(vY:k7 P ty=U)(cs:List b')(off:Nat)(bV:cs[off]? =o u):(part ty cs.toArray off).run P w= .ok u w:=by unfold part;simp only[i',O4 ty bg,i2,vY];simp[bV]
theorem Xn:∀(dN:List Field) (i d:Nat) (X Y:List F) (rH xj:List b') (r:Bool),eb P m h X rH->eb P m h Y xj->(dN.zipIdx i).all (λ(f,i)=>f.name != "_"&&f.offset==i&&P.cellsOf f.type==1)=J->uy (dN.map λf=>iE P f.type) (X.drop i) (Y.drop i)=o r->(Op.eqFields (d+1) rH.toArray xj.toArray dN).run P w= .ok r w
 |[],i,d,X,Y,rH,xj,r,jX,FX,bo,he=>by simp only[pt]at he;unfold uy at he;split at he<;>simp_all [Op.eqFields]
 |f::dN,i,d,X,Y,rH,xj,r,jX,FX,bo,he=>by
   simp only[List.zipIdx_cons,qa,gv,bne_iff_ne,beq_iff_eq]at bo;obtain⟨⟨⟨aA,aoa⟩,_⟩,JT⟩:=bo;simp only[kf]at he;have step:∀(x y:F) (xs eG:List F) (b br:Bool),X.drop i=x::xs->Y.drop i=y::eG->uy (dN.map λf=>iE P f.type) xs eG=o br->r=(b&&br)->k7 P f.type=U->(∃JP,P.underlying f.type=o JP)->(∀u v,b8 P m h x u->b8 P m h y v->(Op.equalIn (d+1) f.type u v).run P w= .ok b w)->(Op.eqFields (d+1) rH.toArray xj.toArray (f::dN)).run P w= .ok r w:=by
    intro x y xs eG b br ex yI qb au vY ⟨JP,DJ⟩ heq;have aF:X[i]? =o x:=by have:=congrArg (·[0]?) ex;simpa using this
    have bH:Y[i]? =o y:=by have:=congrArg (·[0]?) yI;simpa using this
    obtain⟨u,ns,l2⟩:=jX.get? aF;obtain⟨v,o0,iq⟩:=FX.get? bH;have aob:X.drop (i+1)=xs:=by have:=congrArg (List.drop 1) ex;simpa using this
    have aoc:Y.drop (i+1)=eG:=by have:=congrArg (List.drop 1) yI;simpa using this
    have aR:=Xn dN (i+1) d X Y rH xj br jX FX JT (by rw[aob,aoc];exact qb);have dB:=Xm (w:=w) f.type DJ vY rH i ns;have gm:=Xm (w:=w) f.type DJ vY xj i o0;simp only[Op.eqFields,aA,ne_eq,not_false_eq_true,if_true,aoa,i',dB,gm,i2,heq u v l2 iq];cases b
    ·simp[au]
    ·simp[au,aR]
   generalize aDn:X.drop i=aDo at he step;generalize aDp:Y.drop i=aDq at he step;unfold uy at he;split at he
   ·rename_i aX;simp at aX
   ·rename_i _ _ _ h5 aQ k eR xs ee gl eG aw;injection aw with aw ay;split at he
    ·rename_i JU;subst JU;obtain⟨br,I,R⟩:=ed.1 he;have p':=an8 aw;refine step _ _ _ _ (eR==gl) br rfl rfl (by rw[ay];exact I) R.symm (by simp[k7,p']) ⟨_,p'⟩ (λu v bV Z=>?_);cases bV;cases Z;simp[Op.equalIn,kg p']
    ·cases he
   ·rename_i _ _ _ aQ eR xs gl eG aw;injection aw with aw ay;obtain⟨br,I,R⟩:=ed.1 he;have p':=an9 aw;refine step _ _ _ _ (eR==gl) br rfl rfl (by rw[ay];exact I) R.symm (by simp[k7,p']) ⟨_,p'⟩ (λu v bV Z=>?_);cases bV;cases Z;simp[Op.equalIn,kg p']
   ·rename_i _ _ _ aQ eR xs gl eG aw;injection aw with aw ay;obtain⟨br,I,R⟩:=ed.1 he;have p':=an' aw;refine step _ _ _ _ (eR==gl) br rfl rfl (by rw[ay];exact I) R.symm (by simp[k7,p']) ⟨_,p'⟩ (λu v bV Z=>?_);cases bV;cases Z;simp[run_equalIn_string,p']
   ·cases he
theorem Xo(hw:cp P m h w)(a6:ep P m h t a.tmps)(op:BinOp)(ty uG:a9)(x y:g7)(aK:O.op= .binOp op ty x y uG){xs eG:List F}{aQ:List kO}{b:Bool}{v:F}(aF:bM t x= .agg xs)(bH:bM t y= .agg eG)(ab:xc P ty=o aQ)(ad:uy aQ xs eG=o b)(iH:(op= .eql/\v= .bool b)\/(op= .neq/\v= .bool !b)):er P m h a w O v h:=by
 have I:=h4 a6 x;have R:=h4 a6 y;rw[aF]at I;rw[bH]at R;obtain⟨jw,ns⟩:∃u,a.eval x=u:=⟨_,rfl⟩;obtain⟨hD,l2⟩:∃u,a.eval y=u:=⟨_,rfl⟩;rw[ns]at I;rw[l2]at R;cases I with
 |agg _ cD aP a2=>
 cases R with
 |agg _ c9 cg c0=>
 unfold xc at ab;split at ab
 ·rename_i dN xh;split at ab
  ·rename_i an;injection ab with ab;subst ab;simp only[gv,Bool.not_eq_true']at an;obtain⟨⟨aW,bD⟩,cl⟩:=an;have JV:P.fieldsOf ty=dN:=by simp[Program.fieldsOf,xh]
   have p':P.underlying ty=o (.struct (P.fieldsOf ty)):=by rw[JV];exact xh
   have gD:(Op.equalIn 10000 ty (.agg cD.toArray) (.agg c9.toArray)).run P w= .ok b w:=by rw[show(10000:Nat)=9999+1 from rfl,run_equalIn_agg w 9999 ty _ _ p' aW,JV];exact Xn dN.toList 0 9998 xs eG cD c9 b ⟨aP,a2⟩ ⟨cg,c0⟩ cl ad
   rcases iH with⟨rfl,rfl⟩|⟨rfl,rfl⟩
   ·refine er.pure hw (u:=.bool b) ?_ (.bool _);simp only[f',aK,ns,l2,i',run_eqGuard_agg w _ _ _ _ _ _ bD,i2,run_eql_struct,gD,mD]
   ·refine er.pure hw (u:=.bool !b) ?_ (.bool _);simp only[f',aK,ns,l2,i',run_eqGuard_agg w _ _ _ _ _ _ bD,i2,run_neq_struct,gD,mD]
  ·cases ab
 ·cases ab
theorem Xp(x:b')(k:gZ)(i:Int)(y:Nat)(c:BoundsCode)(aF:x= .int k i)(ak:0<=i)(I:i<=y):(Instr.sliceBound x y c).run P w= .ok i.toNat w:=by subst aF;simp[Instr.sliceBound,asIntOf,ak,I]
theorem FY(aod:Bool)(n cap:Nat)(iP af:Option g7)(a6:ep P m h t a.tmps){l r:Int}(am:vS (iP.map (bM t))=o l)(au:xd n (af.map (bM t))=o r)(ak:0<=l)(I:l<=r)(R:r<=n)(aj:n<=cap):(Instr.sliceBounds aod n cap (iP.map a.eval) (af.map a.eval) ag).run P w= .ok (l.toNat,r.toNat,cap) w:=by
 have JW:∀x,af=o x->∀(y:Nat) c,r<=(y:Int)->(Instr.sliceBound (a.eval x) y c).run P w= .ok r.toNat w:=by intro x O9 y c bH;subst O9;have aF:=h4 a6 x;simp only[i3]at au;generalize bM t x=ex at au aF;generalize a.eval x=JN at aF;cases aF<;>simp[xd]at au;subst au;exact Xp _ _ _ _ _ rfl (by omega) (by omega)
 have DK:∀x,iP=o x->∀(y:Nat) c,l<=(y:Int)->(Instr.sliceBound (a.eval x) y c).run P w= .ok l.toNat w:=by intro x O9 y c bH;subst O9;have aF:=h4 a6 x;simp only[i3]at am;generalize bM t x=ex at am aF;generalize a.eval x=JN at aF;cases aF<;>simp[vS]at am;subst am;exact Xp _ _ _ _ _ rfl (by omega) (by omega)
 cases af with
 |none=>
   have hR:r.toNat=n:=by simp[xd]at au;omega
   cases iP with
   |none=>
     have iI:l.toNat=0:=by simp[vS]at am;omega
     simp[Instr.sliceBounds,hR,iI]
   |some x=>simp[Instr.sliceBounds,hR,DK x rfl n _ (by omega)]
 |some y=>
   cases iP with
   |none=>
     have iI:l.toNat=0:=by simp[vS]at am;omega
     simp[Instr.sliceBounds,iI,JW y rfl cap _ (by omega)]
   |some x=>simp[Instr.sliceBounds,JW y rfl cap _ (by omega),DK x rfl r.toNat _ (by omega)]
theorem aoe(I:p4 P ty=J):P.underlying ty=o .string:=by
 unfold p4 at I;split at I
 ·assumption
 ·cases I
theorem aof(I:JD P ty=J):∃e,kN P ty=o e:=by unfold JD at I;exact Option.isSome_iff_exists.1 I
theorem aog(hl:qR P)(hw:cp P m h w)(a6:ep P m h t a.tmps)(ty:a9)(x:g7)(iP af:Option g7)(aK:O.op= .slice ty x iP af ag)(bo:yw P ty (bM t x)=J){v:F}(Z:ru (bM t x) (iP.map (bM t)) (af.map (bM t))=o v):er P m h a w O v h:=by
 have an:=h4 a6 x;have key:∃l n r,vS (iP.map (bM t))=o l/\hX (bM t x)=o n/\xd n (af.map (bM t))=o r/\(0<=l/\l<=r/\r<=n)/\ti (bM t x) l r=o v:=by
  unfold ru at Z;obtain⟨l,am,o0⟩:=dX.1 Z;obtain⟨n,aA,iq⟩:=dX.1 o0;obtain⟨r,au,z9⟩:=dX.1 iq;split at z9
  ·rename_i la;exact⟨l,n,r,am,aA,au,la,z9⟩
  ·cases z9
 clear Z;obtain⟨l,n,r,am,aA,au,⟨ak,I,R⟩,Z⟩:=key
 ·revert bo an aA Z;obtain⟨u,bV⟩:∃u,a.eval x=u:=⟨_,rfl⟩;rw[bV];generalize bM t x=ex;intro bo an aA Z;have pre:∀{d:TypeDesc},P.underlying ty=o d->(∀k e,d≠.array k e)->(f' a.eval O).run P w=((Instr.slice ty u (iP.map a.eval) (af.map a.eval) ag).run P w).andThen λv bj=>.ok (.value v) bj:=by intro d bg dw;simp only[f',aK,bV,Instr.sliceAt,i',kg bg,i2,Option.map_none];cases d<;>first|rfl|exact absurd rfl (dw _ _)
  cases an with
  |str s=>
    simp only[hX,iF]at aA;simp only[ti,iF]at Z;subst aA;subst Z
    ·have bg:=aoe (P:=P) (ty:=ty) bo;refine er.pure hw (u:=.string ⟨((s.drop l.toNat).take (r.toNat - l.toNat)).toArray⟩) ?_ (.str _);rw[pre bg (by simp)];simp only[Instr.slice,i',kg bg,i2,Option.isSome_none,mF,if_false,JR,mD];rw[FY U s.length s.length iP af a6 am au ak I R (b9 _)];simp only[i2];congr 3;apply ByteArray.ext;simp[ByteArray.data_extract]
  |aJ=>
    simp only[hX,iF]at aA;simp only[ti,iF]at Z;subst aA;subst Z
    ·obtain⟨e,Xq⟩:=aof (P:=P) (ty:=ty) bo;have bg:=tn Xq;have ol:=yG hl Xq;obtain⟨i0,hg,jn⟩:=ss (P:=P) (q:=e) (by unfold dA;omega);have uH:l=0:=by omega
     have mH:r=0:=by omega
     refine er.pure hw (u:=.slice ag 0 0) ?_ .aJ;rw[pre bg (by simp)];simp only[Instr.slice,i',kg bg,i2];rw[FY J 0 0 iP af a6 am au ak I R (b9 _)];simp[uH,mH,sizeOf,typeInfo,hg]
  |oY e eR cap=>
    simp only[hX,iF,fG]at aA;simp only[ti,iF,List.drop_nil,List.take_nil]at Z;subst aA;subst Z;simp only[yw,beq_iff_eq]at bo;have bg:=tn bo;have ol:=yG hl bo;obtain⟨i0,hg,jn⟩:=ss (P:=P) (q:=e) (by unfold dA;omega);have uH:l=0:=by omega
    have mH:r=0:=by omega
    refine er.pure hw (u:=.slice (o eR) 0 cap) ?_ (.oY e eR cap);rw[pre bg (by simp)];simp only[Instr.slice,i',kg bg,i2];rw[FY J 0 cap iP af a6 am au ak I R (mI _)];simp[uH,mH,sizeOf,typeInfo,hg,Addr.add]
  |b5 id e es g fP cap ah hle fb uF kQ By=>
    simp only[hX,iF]at aA;simp only[ti,iF]at Z;subst aA;subst Z;simp only[yw,beq_iff_eq]at bo;have bg:=tn bo;have ol:=yG hl bo;obtain⟨i0,hg,jn⟩:=ss (P:=P) (q:=e) (by unfold dA;omega);have iG:i0.size=P.cellsOf e:=jn;have hlen:((es.drop l.toNat).take (r.toNat - l.toNat)).length=r.toNat - l.toNat:=by simp;omega
    have mC:(f' a.eval O).run P w= .ok (.value (.slice (o (if cap=l.toNat then⟨g,fP,ag⟩else⟨g,fP+l.toNat*P.cellsOf e,ag⟩)) (r.toNat - l.toNat) (cap - l.toNat))) w:=by
     rw[pre bg (by simp)];simp only[Instr.slice,i',kg bg,i2];rw[FY J es.length cap iP af a6 am au ak I R kQ];simp only[i2,sizeOf,typeInfo,i',run_program,hg,mD,iG];by_cases lI:cap=l.toNat
     ·simp[lI]
     ·simp[lI,rA]
    obtain⟨bG,qS⟩:∃bG,(if cap=l.toNat then(⟨g,fP,ag⟩:Addr)else⟨g,fP+l.toNat*P.cellsOf e,ag⟩)=⟨g,bG,ag⟩/\(cap≠l.toNat->bG=fP+l.toNat*P.cellsOf e):=by
     by_cases lI:cap=l.toNat
     ·exact⟨fP,by simp[lI],λdw=>absurd lI dw⟩
     ·exact⟨_,by simp[lI],λ_=>rfl⟩
    obtain⟨qS,aoh⟩:=qS;rw[qS]at mC;refine er.pure hw mC ?_;have lr:=b8.b5 (P:=P) (m:=m) (h:=h) ag e ((es.drop l.toNat).take (r.toNat - l.toNat)) g bG (cap - l.toNat) (λi D=>ah (l.toNat+i) D) (λq aX=>hle q (List.mem_of_mem_drop (List.mem_of_mem_take aX))) (by
     intro i Xr D ae;rw[hlen]at Xr;rw[aoh (by omega)];have:=fb (l.toNat+i) (by omega) D ae;rw[Nat.add_mul]at this;rw[<-this];congr 1;omega) (by
     intro i Xr D ae;simp only[List.getElem_take,List.getElem_drop]at ae ⊢;exact uF _ _ D ae) (by rw[hlen];omega) (λk ab=>by cases ab)
    rw[hlen]at lr;exact lr
  |bw b fP cj e cap ad rF kQ px kR=>
    simp only[hX,iF]at aA;simp only[ti]at Z;subst aA;split at Z
    ·rename_i uH;injection Z with Z;subst Z;subst uH;simp only[yw,beq_iff_eq]at bo;have bg:=tn bo;have ol:=yG hl bo;obtain⟨i0,hg,jn⟩:=ss (P:=P) (q:=e) (by unfold dA;omega);refine er.pure hw (u:=.slice (o ⟨m.cu b,fP*P.cellsOf e,ag⟩) r.toNat cap) ?_ (.bw b fP r.toNat e cap ad rF kQ (by omega) kR);rw[pre bg (by simp)];simp only[Instr.slice,i',kg bg,i2];rw[FY J cj cap iP af a6 am au ak I R px];simp only[i2,sizeOf,typeInfo,i',run_program,hg,mD];by_cases lI:cap=0
     ·simp[lI]
     ·simp[rA]
    ·cases Z
  |_=>simp[ti]at Z
end
open Go Go.RowKit
section
variable{P:c'}{m bf:ey}{h E:ai}{w bj:dO}{t:List F}{a:Act}{O:bm}
theorem Xs(off:Nat)(v:b')(cells:Array b'):(v.cells.zipIdx.foldl (λcs (x:b'×Nat)=>cs.setIfInBounds (off+x.2) x.1) cells).size=cells.size/\∀k,(v.cells.zipIdx.foldl (λcs (x:b'×Nat)=>cs.setIfInBounds (off+x.2) x.1) cells)[k]? =if off<=k/\k<off+v.cells.size/\k<cells.size then v.cells[k - off]? else cells[k]? :=by have:=Go.Great.foldl_set off v.cells.toList 0 cells;rw[<-Array.foldl_toList,Array.toList_zipIdx];simpa using this
theorem O'(a6:ep P m h t a.tmps)(place:Nat->Option (Nat×Nat))(pl:List (Nat×Nat))(az:∀i q,pl[i]? =o q->place i=o q):∀(L:List (Nat×g7)) (cs:List F) (cells:Array b') (hB:List F),eb P m h cs cells.toList->qL pl cs (L.map λq=>(q.1,bM t q.2))=o hB->∃yJ,Instr.fill place cells (L.map λq=>(q.1,a.eval q.2))=o yJ/\eb P m h hB yJ.toList
 |[],cs,cells,hB,au,bo=>by simp[qL]at bo;subst bo;exact⟨cells,by simp[Instr.fill],au⟩
 |(i,x)::L,cs,cells,hB,au,bo=>by
   simp only[kf,qL]at bo;rcases Pa:pl[i]? with _|⟨off,size⟩
   ·simp[Pa]at bo
   ·simp only[Pa]at bo;split at bo
    ·rename_i an;obtain⟨aW,bD,cl⟩:=an;obtain⟨cI,b6⟩:=(h4 a6 x).cells cl;have py:=cI.1;have uI:=au.1;simp only[Array.length_toList]at py uI;obtain⟨f1,f2⟩:=Xs off (a.eval x) cells;have hR:eb P m h (dy cs off (bM t x).cells) ((a.eval x).cells.zipIdx.foldl (λcs (y:b'×Nat)=>cs.setIfInBounds (off+y.2) y.1) cells).toList:=by
      refine⟨by rw[Array.length_toList,f1,dy];simp;omega,λD ae dM=>?_⟩;have a5:(cs.take off++(bM t x).cells++cs.drop (off+(bM t x).cells.length))[D]? =o (dy cs off (bM t x).cells)[D]:=fT ae;rw[O5 _ _ _ (by omega)]at a5;have qc:((a.eval x).cells.zipIdx.foldl (λcs (y:b'×Nat)=>cs.setIfInBounds (off+y.2) y.1) cells)[D]? =o (((a.eval x).cells.zipIdx.foldl (λcs (y:b'×Nat)=>cs.setIfInBounds (off+y.2) y.1) cells).toList[D]):=by rw[<-sv];exact fT dM
      rw[f2 D]at qc;by_cases ga:off<=D/\D<off+(bM t x).cells.length
      ·rw[if_pos ga]at a5;rw[if_pos ⟨ga.1,by omega,by omega⟩]at qc;obtain⟨u,jw,hD⟩:=cI.get? a5;rw[sv]at jw;rw[jw]at qc;injection qc with qc;rw[<-qc];exact hD
      ·rw[if_neg ga]at a5;rw[if_neg (by omega)]at qc;obtain⟨u,jw,hD⟩:=au.get? a5;rw[sv]at jw;rw[jw]at qc;injection qc with qc;rw[<-qc];exact hD
     obtain⟨yJ,cS,cf⟩:=O' a6 place pl az L _ _ hB hR bo;refine⟨yJ,?_,cf⟩;simp only[kf,Instr.fill,az i _ Pa];rw[if_neg (by simp;omega)];exact cS
    ·cases bo
theorem Xt(hl:qR P)(hw:cp P m h w)(a6:ep P m h t a.tmps)(ty:a9)(parts:Array (Nat×g7))(aK:O.op= .build ty parts){z:List F}(aB:lp P ty=o z){cs:List F}(Z:(∃pl,ux P ty=o pl/\(∀q∈pl,dA P q.2≠0)/\qL (pl.map λq=>(q.1,dA P q.2)) z (parts.toList.map λq=>(q.1,bM t q.2))=o cs)\/(∃n e,sp P ty=o (n,e)/\dA P e≠0/\qL ((jG n).map λi=>(i*dA P e,dA P e)) z (parts.toList.map λq=>(q.1,bM t q.2))=o cs)):er P m h a w O (.agg cs) h:=by
 obtain⟨i,v,af,xk,am,aC,au,mC⟩:=f9 (m:=m) (h:=h) (w:=w) hl aB;have key:∃cells,P.built ty (parts.map λ(i,x)=>(i,a.eval x)).toList=o cells/\eb P m h cs cells.toList:=by
  have aoi:(parts.map λ(i,x)=>(i,a.eval x)).toList=parts.toList.map λq=>(q.1,a.eval q.2):=by simp
  rw[aoi];unfold Program.built;rcases Z with⟨pl,I,R,aj⟩|⟨n,e,I,R,aj⟩
  ·unfold ux at I;split at I
   ·rename_i dN xh;injection I with I;subst I;have iS:dN.toList.mapM (λf=>(P.info? f.type).map λi=>(f.offset,i.size))=o (dN.toList.map λf=>(f.offset,dA P f.type)):=by
     have:∀l:List Field,(∀f∈l,dA P f.type≠0)->l.mapM (λf=>(P.info? f.type).map λi=>(f.offset,i.size))=o (l.map λf=>(f.offset,dA P f.type)):=by
      intro l;induction l with
      |nil=>intro _;rfl
      |cons f l aR=>intro am;obtain⟨i0,hg,jn⟩:=ss (am f (by simp));simp[List.mapM_cons,hg,aR (λg a5=>am g (by simp[a5])),jn]
     exact this _ (λf bo=>R (f.offset,f.type) (nt.2 ⟨f,bo,rfl⟩))
    simp only[List.map_map]at aj;obtain⟨cells,cS,cf⟩:=O' a6 (λx=>(dN.toList.map λf=>(f.offset,dA P f.type)).toArray[x]?) (dN.toList.map ((λq:Nat×a9=>(q.1,dA P q.2))∘λf=>(f.offset,f.type))) (λi q aX=>by simpa using aX) parts.toList z v.cells cs au aj;refine⟨cells,?_,cf⟩;simp only[af,xh,xk,iS];exact cS
   ·cases I
  ·have BA:=JQ I;obtain⟨i0,hg,jn⟩:=ss R;obtain⟨cells,cS,cf⟩:=O' a6 (λi=>o (i*i0.size,i0.size)) ((jG n).map λi=>(i*dA P e,dA P e)) (λi q aX=>by simp only[xl,ed]at aX;obtain⟨D,ae,rfl⟩:=aX;have:=fO.1 ae;obtain⟨ba,Xu⟩:=this;simp at Xu;subst Xu;rw[jn]) parts.toList z v.cells cs au aj;refine⟨cells,?_,cf⟩;simp only[af,BA,xk,hg];exact cS
 obtain⟨cells,I,R⟩:=key;refine er.pure hw (u:=.agg cells) ?_ ?_
 ·have e:=run_build (P:=P) w ty (parts.map λ(i,x)=>(i,a.eval x)) cells I;simp only[f',aK,i',e,i2,mD]
 ·have:=b8.agg (P:=P) (m:=m) (h:=h) cs cells.toList R.1 R.2;simpa using this
def JX(P:c')(m:ey)(h:ai)(e4:Nat)(es:List (List F))(cs:Array b'):Prop:=cs.size=es.length*e4/\(∀r∈es,r.length=e4)/\∀i (af:i<es.length) D (ae:D<es[i].length),∃v,cs[i*e4+D]? =o v/\b8 P m h es[i][D] v
theorem Xv(a6:ep P m h t a.tmps)(e4:Nat):∀(L:List (Nat×g7)) (es:List (List F)) (cells:Array b') (gS:List (List F)),JX P m h e4 es cells->qM e4 es (L.map λq=>(q.1,bM t q.2))=o gS->∃yJ,Instr.fill (λi=>o (i*e4,e4)) cells (L.map λq=>(q.1,a.eval q.2))=o yJ/\JX P m h e4 gS yJ/\gS.length=es.length
 |[],es,cells,gS,au,bo=>by simp[qM]at bo;subst bo;exact⟨cells,by simp[Instr.fill],au,rfl⟩
 |(i,x)::L,es,cells,gS,au,bo=>by
   simp only[kf,qM]at bo;split at bo
   ·rename_i an;obtain⟨aW,bD,cl⟩:=an;obtain⟨cI,b6⟩:=(h4 a6 x).cells cl;have py:=cI.1;simp only[Array.length_toList]at py;obtain⟨bx,bL,gE⟩:=au;have ga:=p9 (s:=e4) bD;obtain⟨f1,f2⟩:=Xs (i*e4) (a.eval x) cells;have hR:JX P m h e4 (es.set i (bM t x).cells) ((a.eval x).cells.zipIdx.foldl (λcs (y:b'×Nat)=>cs.setIfInBounds (i*e4+y.2) y.1) cells):=by
     refine⟨by rw[f1,bx,List.length_set],λr au=>?_,λkU fb D ae=>?_⟩
     ·rcases List.mem_or_eq_of_mem_set au with aX|aX
      ·exact bL r aX
      ·rw[aX,aW]
     ·rw[f2];have iG:kU<es.length:=by simpa using fb
      by_cases aw:kU=i
      ·subst aw;have me:(es.set kU (bM t x).cells)[kU]=(bM t x).cells:=by simp
       have dM:D<(bM t x).cells.length:=by rw[me]at ae;exact ae
       rw[if_pos ⟨by omega,by omega,by omega⟩];obtain⟨u,jw,hD⟩:=cI.get? (fT dM);refine⟨u,by rw[<-jw,sv];congr 1;omega,?_⟩;simpa only[me]using hD
      ·have me:(es.set i (bM t x).cells)[kU]=es[kU]:=by simp[mG aw]
       have dM:D<es[kU].length:=by rw[me]at ae;exact ae
       have yK:D<e4:=by rw[bL _ (jl iG)]at dM;exact dM
       rw[if_neg (by
        rcases Nat.lt_or_gt_of_ne aw with aX|aX
        ·have:=p9 (s:=e4) aX;omega
        ·have:=p9 (s:=e4) aX;omega)]
       obtain⟨v,o0,iq⟩:=gE kU iG D dM;exact⟨v,o0,by simpa only[me]using iq⟩
    obtain⟨yJ,cS,cf,eQ⟩:=Xv a6 e4 L _ _ gS hR bo;refine⟨yJ,?_,cf,by rw[eQ,List.length_set]⟩;simp only[kf,Instr.fill];rw[if_neg (by simp;omega)];exact cS
   ·cases bo
theorem cp.fresh(hw:cp P m h w)(bj:dO)(e:a9)(es:List (List F))(cs:Array b')(cap:Nat)(aA:oi w bj)(uE:lG bj w.heap.size e cs)(aC:cs.size=cap*P.cellsOf e)(an:es.length<=cap)(kR:cap<=maxLen)(am:∀r∈es,r.length=P.cellsOf e)(Z:∀i (af:i<es.length) D (ae:D<es[i].length),∃v,cs[i*P.cellsOf e+D]? =o v/\b8 P m h es[i][D] v):∃bf,Ext m h bf (h.fresh es.length)/\cp P bf (h.fresh es.length) bj/\b8 P bf (h.fresh es.length) (.b5 (o h.ids) e es) (.slice (o ⟨w.heap.size,0,ag⟩) es.length cap):=by
 have Pb:∀O,m.eP w.heap.size O=ag:=λO=>by
  rcases af:m.eP w.heap.size O with _|v
  ·rfl
  ·have:=hw.tl af;omega
 have aF:Ext m h {m with eP:=λg O=>if g=w.heap.size then(if O<es.length*P.cellsOf e then cs[O]? else ag)else m.eP g O,jU:=λk=>if k=h.ids then w.heap.size else m.jU k,uD:=λk=>if k=h.ids then cap else m.uD k,mY:=λk=>if k=h.ids then e else m.mY k} (h.fresh es.length):=by
  refine⟨rfl,b9 _,by simp[ai.fresh],λb ad=>⟨rfl,rfl,rfl⟩,λg O v af=>?_,λk ab=>?_,λ_ _ h=>h⟩
  ·have:g≠w.heap.size:=λe=>by rw[e,Pb]at af;cases af
   simpa[this]using af
  ·have:k≠h.ids:=by omega
   simp[ai.fresh,this]
 have gT:=hw.new aA;have hle:es.length*P.cellsOf e<=cs.size:=by rw[aC];exact Nat.mul_le_mul_right _ an
 refine⟨_,aF,?_,?_⟩
 ·refine⟨gT.size,λb x ad=>gT.lt b x ad,λb x ad=>?_,λb gl x kP I R he=>gT.inj b gl x kP I R he,λg O v af=>?_,λb x ad O=>?_,λk ab=>?_,λk ab O tp=>?_,λk ab b x ad=>?_,λk ee ab jZ he=>?_,gT.cY,λg x ae=>?_⟩
  ·obtain⟨bD,I,R,aj,aH,bq⟩:=gT.live b x ad;refine⟨bD,I,R,aj,aH,λi af D ae=>?_⟩;obtain⟨v,cq,de⟩:=bq i af D ae;exact⟨v,cq,de.ext aF⟩
  ·by_cases a5:g=w.heap.size
   ·subst a5;simp only[if_true]at af;split at af
    ·rw[uE.cell];exact af
    ·cases af
   ·simp only[a5,if_false]at af;exact gT.eP g O v af
  ·have:=hw.below ad;have dw:m.cu b≠w.heap.size:=by omega
   simp only[dw,if_false];exact gT.sep b x ad O
  ·by_cases lH:k=h.ids
   ·subst lH;simp only[if_true,ai.fresh];refine⟨cs.toList.take (es.length*P.cellsOf e),?_,.inr ⟨w.heap.size,cap,cs,rfl,hw.size,uE,an,kR,aC,rfl⟩⟩;simp;omega
   ·have DL:k<h.ids:=by simp[ai.fresh]at ab;omega
    simp only[lH,if_false,ai.fresh];exact gT.rB k DL
  ·by_cases lH:k=h.ids
   ·subst lH;simp only[if_true,ai.fresh]at tp ⊢;rw[if_neg (by omega)]
   ·have DL:k<h.ids:=by simp[ai.fresh]at ab;omega
    simp only[lH,if_false,ai.fresh]at tp ⊢;have:=(hw.tm DL).2;rw[if_neg (by omega)];exact gT.p8 k DL O tp
  ·have sw:=hw.below ad;by_cases lH:k=h.ids
   ·simp only[lH,if_true];omega
   ·have DL:k<h.ids:=by simp[ai.fresh]at ab;omega
    simp only[lH,if_false];exact gT.oZ k DL b x ad
  ·by_cases I:k=h.ids<;>by_cases R:ee=h.ids
   ·omega
   ·have:=(hw.tm (k:=ee) (by simp[ai.fresh]at jZ;omega)).2;simp[I,R]at he;omega
   ·have:=(hw.tm (k:=k) (by simp[ai.fresh]at ab;omega)).2;simp[I,R]at he;omega
   ·simp[I,R]at he;exact hw.qP k ee (by simp[ai.fresh]at ab;omega) (by simp[ai.fresh]at jZ;omega) he
  ·have ba:=hw.xf ae;obtain⟨aP,a2,bl,cr,ej⟩:=gT.gN g x ae;refine⟨aP,a2,bl,λk ab=>?_,λO=>?_⟩
   ·by_cases lH:k=h.ids
    ·simp only[lH,if_true];omega
    ·simp only[lH,if_false];exact cr k (by simp[ai.fresh]at ab;omega)
   ·simp only[show ¬g=w.heap.size by omega,if_false];exact ej O
 ·refine .b5 (o h.ids) e es w.heap.size 0 cap (λi D=>(cs[i*P.cellsOf e+D]?).getD g0) am (λi af D ae=>?_) (λi af D ae=>?_) an (λk ab=>?_)
  ·have:=p9 (s:=P.cellsOf e) af;simp only[if_true,ir];rw[if_pos (by omega)];obtain⟨v,I,_⟩:=Z i af D (by rw[am _ (jl af)];exact ae);simp[I]
  ·obtain⟨v,I,R⟩:=Z i af D ae;simp only[I,qT];exact R.ext aF
  ·injection ab with ab;subst ab;simp[ai.fresh]
theorem Xw(len e4:Nat)(z:List F)(v:Array b')(aB:eb P m h z v.toList)(am:z.length=e4)(az:0<e4):JX P m h e4 (ap len z) ((Array.range (len*e4)).map (v[· % v.size]!)):=by
 have fQ:v.size=e4:=by have:=aB.1;simp at this;omega
 refine⟨by simp,λr au=>by rw[(List.mem_replicate.1 au).2];exact am,λi af D ae=>?_⟩;simp only[List.getElem_replicate]at ae ⊢;have fb:i<len:=by simpa using af
 have:=p9 (s:=e4) fb;obtain⟨u,jw,hD⟩:=aB.get? (fT ae);refine⟨u,?_,hD⟩;have aoj:(i*e4+D) % e4=D:=by rw[Nat.mul_comm,Nat.mul_add_mod];exact Nat.mod_eq_of_lt (by omega)
 rw[sv]at jw;have ba:i*e4+D<len*e4:=by omega
 simp only[Array.getElem?_map,fQ];rw[Array.getElem?_eq_getElem (by simpa using ba)];simp only[Array.getElem_range,i3,aoj];rw[getElem!_def,jw]
theorem cp.lay(hw:cp P m h w)(bj:dO)(e:a9)(es:List (List F))(cs:Array b')(cap:Nat)(aA:oi w bj)(uE:lG bj w.heap.size e cs)(aC:cs.size=cap*P.cellsOf e)(an:es.length<=cap)(am:∀r∈es,r.length=P.cellsOf e)(Z:∀i (af:i<es.length) D (ae:D<es[i].length),∃v,cs[i*P.cellsOf e+D]? =o v/\b8 P m h es[i][D] v):∃bf,Ext m h bf h/\cp P bf h bj/\b8 P bf h (.b5 ag e es) (.slice (o ⟨w.heap.size,0,ag⟩) es.length cap):=by
 have Pb:∀O,m.eP w.heap.size O=ag:=λO=>by
  rcases af:m.eP w.heap.size O with _|v
  ·rfl
  ·have:=hw.tl af;omega
 have aF:Ext m h {m with eP:=λg O=>if g=w.heap.size then(if O<es.length*P.cellsOf e then cs[O]? else ag)else m.eP g O} h:=by
  refine⟨rfl,b9 _,b9 _,λb ad=>⟨rfl,rfl,rfl⟩,λg O v af=>?_,λk ab=>⟨rfl,b9 _,λ_=>⟨rfl,rfl⟩⟩,λ_ _ h=>h⟩;have:g≠w.heap.size:=λe=>by rw[e,Pb]at af;cases af
  simpa[this]using af
 have gT:=hw.new aA;have hle:es.length*P.cellsOf e<=cs.size:=by rw[aC];exact Nat.mul_le_mul_right _ an
 refine⟨_,aF,?_,?_⟩
 ·refine⟨gT.size,λb x ad=>gT.lt b x ad,λb x ad=>?_,λb gl x kP I R he=>gT.inj b gl x kP I R he,λg O v af=>?_,λb x ad O=>?_,gT.rB,λk ab O tp=>?_,gT.oZ,gT.qP,gT.cY,λg x ae=>?_⟩
  ·obtain⟨bD,I,R,aj,aH,bq⟩:=gT.live b x ad;refine⟨bD,I,R,aj,aH,λi af D ae=>?_⟩;obtain⟨v,cq,de⟩:=bq i af D ae;exact⟨v,cq,de.ext aF⟩
  ·by_cases a5:g=w.heap.size
   ·subst a5;simp only[if_true]at af;split at af
    ·rw[uE.cell];exact af
    ·cases af
   ·simp only[a5,if_false]at af;exact gT.eP g O v af
  ·have:=hw.below ad;have dw:m.cu b≠w.heap.size:=by omega
   simp only[dw,if_false];exact gT.sep b x ad O
  ·have:=(hw.tm ab).2;simp only[show ¬m.jU k=w.heap.size by omega,if_false];exact gT.p8 k ab O tp
  ·have ba:=hw.xf ae;obtain⟨aP,a2,bl,cr,ej⟩:=gT.gN g x ae;refine⟨aP,a2,bl,cr,λO=>?_⟩;simp only[show ¬g=w.heap.size by omega,if_false];exact ej O
 ·refine .b5 ag e es w.heap.size 0 cap (λi D=>(cs[i*P.cellsOf e+D]?).getD g0) am (λi af D ae=>?_) (λi af D ae=>?_) an (λk ab=>by cases ab)
  ·have:=p9 (s:=P.cellsOf e) af;simp only[if_true,ir];rw[if_pos (by omega)];obtain⟨v,I,_⟩:=Z i af D (by rw[am _ (jl af)];exact ae);simp[I]
  ·obtain⟨v,I,R⟩:=Z i af D ae;simp only[I,qT];exact R.ext aF
theorem aok(hl:qR P)(hw:cp P m h w)(a6:ep P m h t a.tmps)(ty:a9)(len:Nat)(parts:Array (Nat×g7))(aK:O.op= .buildSlice ty len parts){e:a9}(he:kN P ty=o e){z:List F}(aB:lp P e=o z){es:List (List F)}(Z:qM (dA P e) (ap len z) (parts.toList.map λq=>(q.1,bM t q.2))=o es)(JY:len*dA P e<=16777216):er P m h a w O (.bw h.n 0 len e) (h.push es)/\er P m h a w O (.b5 (o h.ids) e es) (h.fresh len)/\er P m h a w O (.b5 ag e es) h:=by
 have kT:=tn he;have ol:=yG hl he;obtain⟨i,v,af,xk,am,aC,au,mC⟩:=f9 (m:=m) (h:=h) (w:=w) hl aB;have jn:i.size=P.cellsOf e:=by simp[Program.cellsOf,af]
 have pw:=Xw (P:=P) (m:=m) (h:=h) len (P.cellsOf e) z v.cells au am ol;obtain⟨cells,cS,cf,eQ⟩:=Xv a6 (P.cellsOf e) parts.toList _ _ es pw Z;simp only[List.length_replicate]at eQ;have pz:(parts.map λ(i,x)=>(i,a.eval x)).toList=parts.toList.map λq=>(q.1,a.eval q.2):=by simp
 have ad:(Instr.buildSlice ty len (parts.map λ(i,x)=>(i,a.eval x))).run P w= .ok (.slice (o ⟨w.heap.size,0,ag⟩) len len) (w.alloc (.cells cells e)):=by
  by_cases hlen:len=0
  ·subst hlen;have mH:Array.range 0= #[]:=rfl;have aol:Instr.fill (λi=>o (i*P.cellsOf e,P.cellsOf e)) #[] (parts.toList.map λq=>(q.1,a.eval q.2))=o cells:=by rw[Nat.zero_mul,mH,Array.map_empty]at cS;exact cS
   simp only[Instr.buildSlice,i',kg kT,i2,sizeOf,typeInfo,run_program,af,mD,jn,pz,Nat.zero_mul,mH,Nat.not_lt_zero,gt_iff_lt,if_false,if_true];simp[aol,newRow]
  ·have hmul:0<len*P.cellsOf e:=Nat.mul_pos (by omega) ol;have nu:=run_buildSlice (P:=P) w ty e len (parts.map λ(i,x)=>(i,a.eval x)) cells i v kT af xk (by rw[jn];unfold dA at JY;omega) (by rw[jn];omega) (by rw[jn,pz];exact cS);rw[nu]
 have Pc:(f' a.eval O).run P w= .ok (.value (.slice (o ⟨w.heap.size,0,ag⟩) len len)) (w.alloc (.cells cells e)):=by simp only[f',aK,i',ad,i2,mD]
 obtain⟨JZ,Pd,Pe⟩:=cf;have kR:len<=maxLen:=by have:len*1<=len*P.cellsOf e:=Nat.mul_le_mul_left _ ol;unfold maxLen dA at*;omega
 refine⟨?_,?_,?_⟩
 ·obtain⟨bf,I,R,aj,aH,bq⟩:=hw.push (w.alloc (.cells cells e)) e es cells ((iR.refl _ w).alloc _) (lG.new w _ _) (qU JZ.symm) Pd Pe;refine⟨bf,_,_,.inl Pc,I,R,?_,(nq _ _).alloc hw.size _⟩;have:=b8.bw (P:=P) (m:=bf) (h:=h.push es) h.n 0 len e len (by simp[ai.push]) aH (by rw[bq,JZ,eQ,ir]) (b9 _) kR;rw[aj]at this;simpa using this
 ·obtain⟨bf,I,R,aj⟩:=hw.fresh (w.alloc (.cells cells e)) e es cells len ((iR.refl _ w).alloc _) (lG.new w _ _) (by rw[JZ,eQ]) (by rw[eQ];exact b9 _) kR Pd Pe;rw[eQ]at I R aj;exact⟨bf,_,_,.inl Pc,I,R,aj,(nq _ _).alloc hw.size _⟩
 ·obtain⟨bf,I,R,aj⟩:=hw.lay (w.alloc (.cells cells e)) e es cells len ((iR.refl _ w).alloc _) (lG.new w _ _) (by rw[JZ,eQ]) (by rw[eQ];exact b9 _) Pd Pe;rw[eQ]at aj;exact⟨bf,_,_,.inl Pc,I,R,aj,(nq _ _).alloc hw.size _⟩
theorem Fd(hl:qR P)(hw:cp P m h w)(a6:ep P m h t a.tmps)(ty:a9)(l c:g7)(aK:O.op= .makeSlice ty l c){e:a9}(he:kN P ty=o e){z:List F}(aB:lp P e=o z){cF cA:gZ}{n:Int}(am:bM t l= .int cF n)(an:bM t c= .int cA n)(ak:0<=n)(JY:n<=100000):er P m h a w O (.bw h.n 0 n.toNat e) (h.push (ap n.toNat z)):=by
 have kT:=tn he;have ol:=yG hl he;obtain⟨i,v,af,xk,iI,aC,au,mC⟩:=f9 (m:=m) (h:=h) (w:=w) hl aB;have jn:i.size=P.cellsOf e:=by simp[Program.cellsOf,af]
 have cI:=h4 a6 l;have b6:=h4 a6 c;rw[am]at cI;rw[an]at b6;obtain⟨jw,ns⟩:∃u,a.eval l=u:=⟨_,rfl⟩;obtain⟨hD,l2⟩:∃u,a.eval c=u:=⟨_,rfl⟩;rw[ns]at cI;rw[l2]at b6;cases cI;cases b6;have vW:=hl.small e i (Xi aB) af;have ad:(i.bytes:Int)*n<=281474976710656:=by have I:(i.bytes:Int)*n<=100000*100000:=Int.mul_le_mul (by omega) JY ak (by omega);omega
 have pw:=Xw (P:=P) (m:=m) (h:=h) n.toNat (P.cellsOf e) z v.cells au iI ol;obtain⟨bx,bL,gE⟩:=pw;have Xx:=run_make (P:=P) w ty e i v kT af xk cF cA n n ak (Int.le_refl _) ad (by omega);have aw:madeCells v.cells (n.toNat*i.size)=(Array.range (n.toNat*P.cellsOf e)).map (v.cells[· % v.cells.size]!):=by rw[jn];rfl
 rw[aw]at Xx;obtain⟨bf,I,R,aj,aH,bq⟩:=hw.push (w.alloc (.cells ((Array.range (n.toNat*P.cellsOf e)).map (v.cells[· % v.cells.size]!)) e)) e (ap n.toNat z) _ ((iR.refl _ w).alloc _) (lG.new w _ _) (qU bx.symm) bL gE;refine⟨bf,_,.slice (o ⟨w.heap.size,0,ag⟩) n.toNat n.toNat,.inl ?_,I,R,?_,(nq _ _).alloc hw.size _⟩
 ·simp only[f',aK,ns,l2,i',Xx,i2,mD]
 ·have:=b8.bw (P:=P) (m:=bf) (h:=h.push (ap n.toNat z)) h.n 0 n.toNat e n.toNat (by simp[ai.push]) aH (by rw[bq,bx,List.length_replicate,ir]) (b9 _) (by unfold maxLen;omega);rw[aj]at this;simpa using this
end
open Go Go.RowKit
section
variable{P:c'}{m bf:ey}{h E:ai}{w bj:dO}{t:List F}{a:Act}{O:bm}
theorem Pf(base:Nat)(t ty e:a9)(i:TypeInfo)(z:b')(size bytes:Nat)(a6:P.underlying t=o (.slice e))(af:P.info? e=o i)(aB:i.zero=o z)(uC:i.size=size)(vW:i.bytes=bytes)(FR:z.cells.size=size)(fa:0<size)(v:b')(n:Nat)(xs:List b')(jv:w.ownsRow base e size v n xs)(a:Addr)(m c:Nat)(yL:0<m)(news:List b')(am:news.length=m*size)(yM:∀D u,news[D]? =o u->w.cell? (a.add D)=o u)(I:∀u∈news,u.oneCell'=J)(yD:n+m<=maxLen)(Bu:(n+m)*bytes<=140737488355328)(Bv:base<=w.heap.size):∃g cap bj,(yE #[t,t] ty #[v,.slice (o a) m c]).run P w= .ok (.slice (o ⟨g,0,ag⟩) (n+m) cap) bj/\bj.ownsRow base e size (.slice (o ⟨g,0,ag⟩) (n+m) cap) (n+m) (xs++news)/\((v.ownBlock=o g/\iR (λk=>k=g) w bj/\∃k,v= .slice (o ⟨g,0,ag⟩) n k)\/(g=w.heap.size/\oi w bj)):=by
 subst uC;subst vW;have aom:n+m<=9223372036854775807:=by simp only[maxLen]at yD;omega
 have hlen:(xs++news).length=(n+m)*i.size:=by rw[fz,jv.1,am,Nat.add_mul]
 have grown:∀(fF:Nat),fF<n+m->(w.drew.alloc (.cells (xs.toArray++news.toArray++Builtin.zeroCells z.cells (grownCap w (n+m) fF e - (n+m))) e)).ownsRow base e i.size (.slice (o ⟨w.heap.size,0,ag⟩) (n+m) (grownCap w (n+m) fF e)) (n+m) (xs++news)/\oi w (w.drew.alloc (.cells (xs.toArray++news.toArray++Builtin.zeroCells z.cells (grownCap w (n+m) fF e - (n+m))) e)):=by
  intro fF aK;have vV:=grownCap_ge w (n+m) fF e;have BB:grownCap w (n+m) fF e<=maxLen:=grownCap_le_maxLen w (n+m) fF e yD;refine⟨⟨hlen,.inr ⟨w.heap.size,_,_,rfl,Bv,heap_alloc_new w.drew _,vV,BB,?_,?_⟩⟩,⟨rfl,rfl,rfl,by simp,λk ab _=>heap_alloc_old w.drew _ ab⟩⟩
  ·simp only[Array.size_append,List.size_toArray,size_zeroCells,FR,jv.1,am,<-Nat.add_mul];congr 1;omega
  ·simp only[Array.toList_append,kS];rw[<-kS,<-hlen];exact List.take_left
 rcases jv.2 with⟨rfl,rfl⟩|⟨g,cap,cur,rfl,Pg,a5,yC,BB,p7,DE⟩
 ·have aF:xs=[]:=List.eq_nil_of_length_eq_zero (by simpa using jv.1);subst aF;have au:=run_append_nil (P:=P) w t ty e i z a6 af aB a m c news am yM (by omega) (by omega) (by have ad:=Bu;simp only[ir]at ad;omega);have mZ:=grown 0 (by omega);simp only[ir,l3,Array.empty_append]at mZ ⊢;exact⟨_,_,_,au,mZ.1,.inr ⟨rfl,mZ.2⟩⟩
 ·by_cases DM:n+m<=cap
  ·have aon:n*i.size+news.length<=cur.size:=by rw[am,p7,<-Nat.add_mul];exact Nat.mul_le_mul_right _ DM
   have au:=run_append_room (P:=P) w t ty e i a6 af g n cap cur a5 a m c news am yM I DM aon;refine⟨_,_,_,au,⟨hlen,.inr ⟨g,cap,_,rfl,Pg,setRow_heap w g cur _ e _ a5,DM,BB,?_,?_⟩⟩,.inl ⟨rfl,⟨rfl,rfl,rfl,by simp,λk _ ab=>setRow_other w g k _ ab⟩,⟨_,rfl⟩⟩⟩
   ·simp only[List.size_toArray,fz,pv,List.length_drop,Array.length_toList];omega
   ·rw[DE,<-hlen];exact List.take_left
  ·have holds:∀D u,xs[D]? =o u->w.cell? ((⟨g,0,ag⟩:Addr).add D)=o u:=jv.cells (g:=g) rfl;have au:=run_append_grow (P:=P) w t ty e i z a6 af aB ⟨g,0,ag⟩ n cap xs jv.1 holds a m c news am yM (by omega) (by omega) (growslice_fits (by omega) Bu);have mZ:=grown cap (by omega);exact⟨_,_,_,au,mZ.1,.inr ⟨rfl,mZ.2⟩⟩
def o2(P:c')(m:ey)(h:ai)(e4:Nat)(es:List (List F))(l:List b'):Prop:=l.length=es.length*e4/\(∀r∈es,r.length=e4)/\∀i (af:i<es.length) D (ae:D<es[i].length),∃v,l[i*e4+D]? =o v/\b8 P m h es[i][D] v
theorem o2.one{e4:Nat}{es:List (List F)}{l:List b'}(au:o2 P m h e4 es l)(az:0<e4)(I:es.all (·.all F.one)=J):∀u∈l,u.oneCell'=J:=by
 intro u bV;obtain⟨k,ab,rfl⟩:=List.getElem_of_mem bV;obtain⟨bx,bL,gE⟩:=au;have af:k / e4<es.length:=Nat.div_lt_of_lt_mul (by rw[Nat.mul_comm,<-bx];exact ab);have ae:k % e4<es[k / e4].length:=by rw[bL _ (jl af)];exact Nat.mod_lt _ az
 obtain⟨v,R,aj⟩:=gE _ af _ ae;have e:k / e4*e4+k % e4=k:=by rw[Nat.mul_comm];exact Nat.div_add_mod k e4
 rw[e,fT ab]at R;injection R with R;rw[R];simp only[jW]at I;exact aj.one (I _ (jl af) _ (jl ae))
theorem Xy(hw:cp P m h w){e:a9}{x:F}(aF:b8 P m h x u)(px:x≠.aJ){new:List (List F)}(aA:js h e x=o new):∃qO n c news,u= .slice (o qO) n c/\n=new.length/\o2 P m h (P.cellsOf e) new news/\∀D v,news[D]? =o v->w.cell? (qO.add D)=o v:=by
 cases aF with
 |aJ=>exact absurd rfl px
 |oY dT eR cap=>
   simp only[js]at aA;split at aA
   ·injection aA with aA;subst aA;exact⟨eR,0,cap,[],rfl,rfl,⟨by simp,by simp,λi af=>by simp at af⟩,λD v ae=>by simp at ae⟩
   ·cases aA
 |b5 id dT es g fP cap ah hle fb uF kQ By=>
   simp only[js]at aA;split at aA
   ·rename_i he;subst he;injection aA with aA;subst aA;have aoo:0<P.cellsOf dT\/P.cellsOf dT=0:=by omega
    refine⟨⟨g,fP,ag⟩,es.length,cap,(jG (es.length*P.cellsOf dT)).map λk=>ah (k / P.cellsOf dT) (k % P.cellsOf dT),rfl,rfl,⟨by simp,hle,λi af D ae=>?_⟩,λD v ae=>?_⟩
    ·have yK:D<P.cellsOf dT:=by rw[<-hle _ (jl af)];exact ae
     have:=p9 (s:=P.cellsOf dT) af;have bg:(i*P.cellsOf dT+D) / P.cellsOf dT=i:=by rw[Nat.mul_comm,Nat.mul_add_div (by omega),Nat.div_eq_of_lt yK,Nat.add_zero]
     have hm:(i*P.cellsOf dT+D) % P.cellsOf dT=D:=by rw[Nat.mul_comm,Nat.mul_add_mod];exact Nat.mod_eq_of_lt yK
     refine⟨ah i D,?_,uF i af D ae⟩;rw[xl,List.getElem?_range (by omega)];simp only[i3,bg,hm]
    ·simp only[xl,ed]at ae;obtain⟨k,ab,rfl⟩:=ae;obtain⟨ba,JU⟩:=fO.1 ab;simp at ba JU;subst JU;have az:0<P.cellsOf dT:=by
      rcases aoo with I|I
      ·exact I
      ·rw[I]at ba;omega
     have bg:D / P.cellsOf dT<es.length:=Nat.div_lt_of_lt_mul (by rw[Nat.mul_comm];exact ba);have hm:=Nat.mod_lt D az;have:=hw.eP _ _ _ (fb _ bg _ hm);rw[rA];have ay:D / P.cellsOf dT*P.cellsOf dT+D % P.cellsOf dT=D:=by rw[Nat.mul_comm];exact Nat.div_add_mod D _
     rwa [ay]at this
   ·cases aA
 |bw b fP cj dT cap ad rF kQ px kR=>
   simp only[js]at aA;split at aA
   ·rename_i he;subst he;obtain⟨es,kT,aA⟩:=dX.1 aA;split at aA
    ·rename_i hle;injection aA with aA;subst aA;obtain⟨cs,I,R,aj,aH,bq⟩:=hw.live b es kT;rw[rF]at I aj aH bq;have hm:(fP+cj)*P.cellsOf dT<=es.length*P.cellsOf dT:=Nat.mul_le_mul_right _ hle;rw[Nat.add_mul]at hm;have hlen:((es.drop fP).take cj).length=cj:=by simp;omega
     refine⟨_,cj,cap,(cs.toList.drop (fP*P.cellsOf dT)).take (cj*P.cellsOf dT),rfl,hlen.symm,⟨by rw[hlen];simp;omega,λr au=>aj r (List.mem_of_mem_drop (List.mem_of_mem_take au)),λi af D ae=>?_⟩,λD v ae=>?_⟩
     ·have jn:i<cj/\fP+i<es.length:=by simp at af;omega
      have aw:((es.drop fP).take cj)[i]=es[fP+i]'jn.2:=by simp
      have dM:D<es[fP+i].length:=by rw[<-aw];exact ae
      have yK:D<P.cellsOf dT:=by rw[<-aj _ (jl jn.2)];exact dM
      obtain⟨v,cI,b6⟩:=bq (fP+i) jn.2 D dM;have Xz:=p9 (s:=P.cellsOf dT) jn.1;refine⟨v,?_,by simpa using b6⟩;rw[v1 (by omega),List.getElem?_drop,sv];rw[show fP*P.cellsOf dT+(i*P.cellsOf dT+D)=(fP+i)*P.cellsOf dT+D by rw[Nat.add_mul];omega];exact cI
     ·have ba:D<cj*P.cellsOf dT:=by have:=(fO.1 ae).1;simp at this;omega
      rw[v1 ba,List.getElem?_drop,sv]at ae;rw[rA,I.cell];exact ae
    ·cases aA
   ·cases aA
 |_=>simp[js]at aA
theorem z'(ty:a9)(rG:List a9)(x y:g7)(aK:O.op= .call {callee:=.builtin .append,args:= #[x,y],argTypes:=(ty::rG).toArray}){v r:b'}(bV:a.eval x=u)(Z:a.eval y=v)(au:(yE (ty::rG).toArray O.type #[u,v]).run P w= .ok r bj):(f' a.eval O).run P w= .ok (.value r) bj:=by simp only[f',aK,resolve,invoke,builtin,i',mD,i2,List.map_toArray,kf,pt,bV,Z,au]
theorem aop(ty e:a9)(rG:List a9)(tq:P.underlying ty=o (.slice e))(af:P.info? e≠ag)(Ph:rG=[ty])(FZ:a9)(A:Option Addr)(n c:Nat)(yC:n<=c):(yE (ty::rG).toArray FZ #[.slice A n c,.slice ag 0 0]).run P w= .ok (.slice A n c) w:=by subst Ph;obtain⟨i,af⟩:=Option.ne_none_iff_exists'.1 af;cases A<;>simp[yE,kg tq,sizeOf,typeInfo,af,Builtin.lenOf,Builtin.firstCells,yC,storeCells]
theorem aoq(ty e:a9)(rG:List a9)(tq:P.underlying ty=o (.slice e))(af:P.info? e≠ag)(Ph:rG=[ty])(FZ:a9)(A:Option Addr)(n c:Nat)(yC:n<=c)(qO:Addr)(bD:Nat):(yE (ty::rG).toArray FZ #[.slice A n c,.slice (o qO) 0 bD]).run P w= .ok (.slice A n c) w:=by subst Ph;obtain⟨i,af⟩:=Option.ne_none_iff_exists'.1 af;cases A<;>simp[yE,kg tq,sizeOf,typeInfo,af,Builtin.lenOf,Builtin.firstCells,yC,storeCells,loadCells,loadCellsFrom]
theorem aor(hw:cp P m h w){e:a9}{es:List (List F)}{xs:List b'}{g cap:Nat}(jv:w.ownsRow m.base e (P.cellsOf e) (.slice (o ⟨g,0,ag⟩) es.length cap) es.length xs)(am:∀r∈es,r.length=P.cellsOf e)(Z:∀i (af:i<es.length) D (ae:D<es[i].length),∃v,w.cell? ⟨g,i*P.cellsOf e+D,ag⟩=o v/\b8 P m h es[i][D] v):o2 P m h (P.cellsOf e) es xs:=by
 refine⟨jv.1,am,λi af D ae=>?_⟩;have yK:D<P.cellsOf e:=by rw[<-am _ (jl af)];exact ae
 have:=p9 (s:=P.cellsOf e) af;have ba:i*P.cellsOf e+D<xs.length:=by rw[jv.1];omega
 obtain⟨v,I,R⟩:=Z i af D ae;have aj:=jv.cells (g:=g) rfl (i*P.cellsOf e+D) xs[i*P.cellsOf e+D] (fT ba);rw[rA,ir,I]at aj;injection aj with aj;exact⟨v,by rw[fT ba,aj],R⟩
theorem o2.append{e4:Nat}{es dN:List (List F)}{l k:List b'}(I:o2 P m h e4 es l)(R:o2 P m h e4 dN k):o2 P m h e4 (es++dN) (l++k):=by
 obtain⟨aP,a2,bl⟩:=I;obtain⟨cg,c0,fq⟩:=R;refine⟨by simp[aP,cg,Nat.add_mul],λr au=>?_,λi af D ae=>?_⟩
 ·rcases qV.1 au with h|h
  ·exact a2 r h
  ·exact c0 r h
 ·by_cases ba:i<es.length
  ·have aw:(es++dN)[i]=es[i]:=List.getElem_append_left ba;have dM:D<es[i].length:=by rw[aw]at ae;exact ae
   have yK:D<e4:=by rw[<-a2 _ (jl ba)];exact dM
   have:=p9 (s:=e4) ba;obtain⟨v,cI,b6⟩:=bl i ba D dM;exact⟨v,by rw[l0 (by omega)];exact cI,by simpa only[aw]using b6⟩
  ·have iG:i - es.length<dN.length:=by simp at af;omega
   have aw:(es++dN)[i]=dN[i - es.length]:=List.getElem_append_right (by omega);have dM:D<dN[i - es.length].length:=by rw[aw]at ae;exact ae
   have hle:es.length*e4<=i*e4:=Nat.mul_le_mul_right _ (by omega);obtain⟨v,cI,b6⟩:=fq _ iG D dM;refine⟨v,?_,by simpa only[aw]using b6⟩;rw[l1 (by omega),<-cI];congr 1;rw[Nat.sub_mul];omega
theorem o2.take{e4:Nat}{es:List (List F)}{l:List b'}(I:o2 P m h e4 es l)(n:Nat)(aA:n<=es.length):o2 P m h e4 (es.take n) (l.take (n*e4)):=by
 obtain⟨aP,a2,bl⟩:=I;have hle:n*e4<=es.length*e4:=Nat.mul_le_mul_right _ aA;refine⟨by simp[aP,Nat.min_eq_left hle,Nat.min_eq_left aA],λr au=>a2 r (List.mem_of_mem_take au),λi af D ae=>?_⟩;have fb:i<n/\i<es.length:=by simp at af;omega
 have aw:(es.take n)[i]=es[i]'fb.2:=by simp
 have dM:D<(es[i]'fb.2).length:=by rw[aw]at ae;exact ae
 have yK:D<e4:=by rw[<-a2 _ (jl fb.2)];exact dM
 have:=p9 (s:=e4) fb.1;obtain⟨v,cI,b6⟩:=bl i fb.2 D dM;exact⟨v,by rw[v1 (by omega)];exact cI,by simpa only[aw]using b6⟩
end
open Go Go.RowKit
section
variable{P:c'}{m bf:ey}{h E:ai}{w bj:dO}{t:List F}{a:Act}{O:bm}
theorem cp.grown(hw:cp P m h w){k:Nat}(ab:k<h.ids){xs news:List b'}{n kV g cap:Nat}(aA:n=h.hw k)(yL:0<kV)(hold:w.ownsRow m.base (m.mY k) (P.cellsOf (m.mY k)) (.slice (o ⟨m.jU k,0,ag⟩) n (m.uD k)) n xs)(fa:0<P.cellsOf (m.mY k))(jv:bj.ownsRow m.base (m.mY k) (P.cellsOf (m.mY k)) (.slice (o ⟨g,0,ag⟩) (n+kV) cap) (n+kV) (xs++news))(a5:(g=m.jU k/\iR (λq=>q=g) w bj)\/(g=w.heap.size/\oi w bj))(es:List (List F))(Pj:o2 P m h (P.cellsOf (m.mY k)) es (xs++news))(kT:es.length=n+kV):∃bf,Ext m h bf (h.grow k (n+kV))/\cp P bf (h.grow k (n+kV)) bj/\b8 P bf (h.grow k (n+kV)) (.b5 (o k) (m.mY k) es) (.slice (o ⟨g,0,ag⟩) (n+kV) cap)/\Below m.base w bj:=by
 subst aA;generalize gD:m.mY k=e at*;generalize cw:P.cellsOf e=S at*;have Pk:=hw.tm ab;have DF:∀O v,(xs++news)[O]? =o v->bj.cell? ⟨g,O,ag⟩=o v:=by intro O v aK;have:=jv.cells (g:=g) rfl O v aK;rwa [rA,ir]at this
 have aos:∀O v,xs[O]? =o v->w.cell? ⟨m.jU k,O,ag⟩=o v:=by intro O v aK;have:=hold.cells (g:=m.jU k) rfl O v aK;rwa [rA,ir]at this
 have om:xs.length=h.hw k*S:=hold.1;have aDr:(xs++news).length=(h.hw k+kV)*S:=jv.1;have ba:h.hw k*S<(h.hw k+kV)*S:=by rw[Nat.add_mul];have:=Nat.mul_pos yL fa;omega
 have XA:∀fH O v,m.eP fH O=o v->(if fH=g/\O<(h.hw k+kV)*S then(xs++news)[O]? else m.eP fH O)=o v/\bj.cell? ⟨fH,O,ag⟩=o v:=by
  intro fH O v af;have an:=hw.eP _ _ _ af;by_cases aw:fH=g
  ·subst aw;rcases a5 with⟨gF,kh⟩|⟨gF,e5⟩
   ·have aK:O<h.hw k*S:=by
     rcases oj O (h.hw k*S)with I|I
     ·exact I
     ·have:=hw.p8 k ab O (by rw[gD,cw];exact I);rw[<-gF,af]at this;cases this
    have aF:xs[O]? =o v:=by have I:=fT (l:=xs) (i:=O) (by omega);have R:=aos O _ I;rw[<-gF,an]at R;injection R with R;rw[I,R]
    have tr:(xs++news)[O]? =o v:=by rw[l0 (by omega)];exact aF
    exact⟨by rw[if_pos ⟨rfl,by omega⟩];exact tr,DF O v tr⟩
   ·have:=hw.tl af;omega
  ·refine⟨by rw[if_neg (λbA=>aw bA.1)];exact af,?_⟩;rcases a5 with⟨gF,kh⟩|⟨gF,e5⟩
   ·rw[World.cell?_of_block (w:=w) (kh.block _ (hw.tl af) aw)];exact an
   ·rw[World.cell?_of_block (w:=w) (e5.block _ (hw.tl af) id)];exact an
 have aF:Ext m h {m with eP:=λfH O=>if fH=g/\O<(h.hw k+kV)*S then(xs++news)[O]? else m.eP fH O,jU:=λq=>if q=k then g else m.jU q,uD:=λq=>if q=k then cap else m.uD q} (h.grow k (h.hw k+kV)):=by
  refine⟨rfl,b9 _,b9 _,λb ad=>⟨rfl,rfl,rfl⟩,λfH O v af=>(XA fH O v af).1,λq aX=>⟨rfl,?_,λhe=>?_⟩,λ_ _ h=>h⟩
  ·by_cases aw:q=k
   ·subst aw;simp[ai.grow]
   ·simp[ai.grow,aw]
  ·by_cases aw:q=k
   ·subst aw;simp[ai.grow]at he;omega
   ·simp[aw]
 have uC:w.heap.size<=bj.heap.size:=by
  rcases a5 with⟨_,kh⟩|⟨_,e5⟩
  ·exact kh.size
  ·exact e5.size
 have uJ:∀q,q<w.heap.size->q≠m.jU k->bj.heap[q]? =w.heap[q]? :=by
  intro q aX dw;rcases a5 with⟨gF,kh⟩|⟨gF,e5⟩
  ·exact kh.block q aX (λe=>dw (e.trans gF))
  ·exact e5.block q aX id
 have XB:m.base<=g:=by
  rcases a5 with⟨gF,_⟩|⟨gF,_⟩
  ·rw[gF];exact Pk.1
  ·rw[gF];exact hw.size
 have XC:∀b x,h.cell b=o x->m.cu b≠g:=by
  intro b x ad;rcases a5 with⟨gF,_⟩|⟨gF,_⟩
  ·rw[gF];exact hw.oZ k ab b x ad
  ·have:=hw.below ad;omega
 refine⟨_,aF,?_,?_,?_⟩
 ·refine⟨e6 hw.size uC,hw.lt,λb x ad=>?_,hw.inj,λfH O v af=>?_,λb x ad O=>?_,λq aX=>?_,λq aX O aK=>?_,λq aX b x ad=>?_,λq fk aX pA he=>?_,hw.cY.g9 hw.size λfH qc ba=>uJ fH qc (λe=>by have:=Pk.1;omega),λD x ae=>?_⟩
  ·obtain⟨cs,aW,bD,cl,eg,fV⟩:=hw.live b x ad;refine⟨cs,(uJ _ aW.lt (hw.oZ k ab b x ad)).trans aW,bD,cl,eg,λi af D ae=>?_⟩;obtain⟨v,cI,b6⟩:=fV i af D ae;exact⟨v,cI,b6.ext aF⟩
  ·simp only at af;split at af
   ·rename_i an;rw[an.1];exact DF O v af
   ·exact(XA fH O v af).2
  ·simp only;rw[if_neg (λbA=>XC b x ad bA.1)];exact hw.sep b x ad O
  ·by_cases aw:q=k
   ·subst aw;refine⟨xs++news,?_⟩;simp only[if_true,ai.grow,gD,cw];exact jv
   ·obtain⟨eG,bH⟩:=hw.rB q aX;refine⟨eG,?_⟩;simp only[aw,if_false,ai.grow];have dw:m.jU q≠m.jU k:=λe=>aw (hw.qP q k aX ab e);refine⟨bH.1,?_⟩;rcases bH.2 with I|⟨cf,uK,cur,ay,lq,Pl,r⟩
    ·exact .inl I
    ·refine .inr ⟨cf,uK,cur,ay,lq,?_,r⟩;simp at ay;obtain⟨rfl,rfl⟩:=ay;exact(uJ _ (hw.tm aX).2 dw).trans Pl
  ·by_cases aw:q=k
   ·subst aw;simp only[if_true,ai.grow,gD,cw]at aK ⊢;rw[if_neg (by omega)];rcases a5 with⟨gF,_⟩|⟨gF,_⟩
    ·rw[gF];exact hw.p8 q ab O (by rw[gD,cw];omega)
    ·rcases af:m.eP g O with _|v
     ·rfl
     ·have:=hw.tl af;omega
   ·simp only[aw,if_false,ai.grow]at aK ⊢;have dw:m.jU q≠g:=by
     rcases a5 with⟨gF,_⟩|⟨gF,_⟩
     ·rw[gF];exact λe=>aw (hw.qP q k aX ab e)
     ·have:=(hw.tm aX).2;omega
    rw[if_neg (λbA=>dw bA.1)];exact hw.p8 q aX O aK
  ·by_cases aw:q=k
   ·simp only[aw,if_true];exact XC b x ad
   ·simp only[aw,if_false];exact hw.oZ q aX b x ad
  ·have dw:∀q,q<h.ids->q≠k->m.jU q≠g:=by
    intro q aX aw;rcases a5 with⟨gF,_⟩|⟨gF,_⟩
    ·rw[gF];exact λe=>aw (hw.qP q k aX ab e)
    ·have:=(hw.tm aX).2;omega
   by_cases I:q=k<;>by_cases R:fk=k
   ·omega
   ·simp[I,R]at he;exact absurd he.symm (dw fk pA R)
   ·simp[I,R]at he;exact absurd he (dw q aX I)
   ·simp[I,R]at he;exact hw.qP q fk aX pA he
  ·obtain⟨aP,a2,bl,cr,ej⟩:=hw.gN D x ae;have ez:=hw.xf ae;have J0:g≠D:=by
    rcases a5 with⟨gF,_⟩|⟨gF,_⟩
    ·rw[gF];exact cr k ab
    ·omega
   refine⟨aP,(uJ D ez (λe=>cr k ab e.symm)).trans a2,bl,λq aX=>?_,λO=>?_⟩
   ·by_cases aw:q=k
    ·simp only[aw,if_true];exact J0
    ·simp only[aw,if_false];exact cr q aX
   ·simp only;rw[if_neg λbA=>J0 bA.1.symm];exact ej O
 ·obtain⟨bx,bL,gE⟩:=Pj;have:=b8.b5 (P:=P) (m:={m with eP:=λfH O=>if fH=g/\O<(h.hw k+kV)*S then(xs++news)[O]? else m.eP fH O,jU:=λq=>if q=k then g else m.jU q,uD:=λq=>if q=k then cap else m.uD q}) (h:=h.grow k (h.hw k+kV)) (o k) e es g 0 cap (λi D=>((xs++news)[i*S+D]?).getD g0) (by rw[cw];exact bL) (λi af D ae=>by
    rw[cw]at ae ⊢;have:=p9 (s:=S) af;rw[kT]at this;simp only[ir];rw[if_pos ⟨trivial,by omega⟩,fT (by omega)];simp) (λi af D ae=>by
    obtain⟨v,cI,b6⟩:=gE i af D ae;rw[cI,qT];exact b6.ext aF) (by
    rw[kT];rcases jv.2 with⟨I,R⟩|⟨_,_,_,I,_,_,R,_⟩
    ·simp at I
    ·simp at I;obtain⟨rfl,rfl⟩:=I;exact R) (λq aX=>by
    injection aX with aX;subst aX;exact⟨ab,gD,by simp[ai.grow,kT],λ_=>by simp⟩)
  rw[kT]at this;exact this
 ·have ad:∀q,q<m.base->bj.heap[q]? =w.heap[q]? :=λq aX=>uJ q (by have:=hw.size;omega) (by have:=Pk.1;omega);rcases a5 with⟨_,kh⟩|⟨_,e5⟩
  ·exact⟨kh.os,kh.tape,kh.output,kh.size,ad⟩
  ·exact⟨e5.os,e5.tape,e5.output,e5.size,ad⟩
theorem cp.XD(hw:cp P m h w){b:Nat}{es:List (List F)}(ad:h.cell b=o es)(e:a9)(he:m.hQ b=e){xs:List b'}{n g cap:Nat}(jv:bj.ownsRow m.base e (P.cellsOf e) (.slice (o ⟨g,0,ag⟩) n cap) n xs)(a5:(g=m.cu b/\iR (λq=>q=g) w bj)\/(g=w.heap.size/\oi w bj))(dN:List (List F))(Pj:o2 P m h (P.cellsOf e) dN xs)(xh:dN.length=n):∃bf,Ext m h bf ((h.set b ag).push dN)/\cp P bf ((h.set b ag).push dN) bj/\b8 P bf ((h.set b ag).push dN) (.bw h.n 0 n e) (.slice (o ⟨g,0,ag⟩) n cap)/\Below m.base w bj:=by
 have aF:Ext m h {m with cu:=λq=>if q=h.n then g else m.cu q,hQ:=λq=>if q=h.n then e else m.hQ q,oX:=λq=>if q=h.n then cap*P.cellsOf e else m.oX q} ((h.set b ag).push dN):=⟨rfl,by simp[ai.push,ai.set],by simp[ai.push,ai.set],λq aX=>by simp[show q≠h.n by omega],λ_ _ _ h=>h,λk ab=>⟨rfl,b9 _,λ_=>⟨rfl,rfl⟩⟩,λ_ _ h=>h⟩;have uC:w.heap.size<=bj.heap.size:=by
  rcases a5 with⟨_,kh⟩|⟨_,e5⟩
  ·exact kh.size
  ·exact e5.size
 have uJ:∀q,q<w.heap.size->q≠m.cu b->bj.heap[q]? =w.heap[q]? :=by
  intro q aX dw;rcases a5 with⟨gF,kh⟩|⟨gF,e5⟩
  ·exact kh.block q aX (λe=>dw (e.trans gF))
  ·exact e5.block q aX id
 have ie:=(hw.lt b es ad).1;have aDs:=hw.below ad;have yN:∀q x,((h.set b ag).push dN).cell q=o x->(q=h.n/\x=dN)\/(q≠h.n/\q≠b/\h.cell q=o x):=by
  intro q x aX;by_cases aw:q=h.n
  ·left;subst aw;simp[ai.push,ai.set]at aX;exact⟨rfl,aX.symm⟩
  ·right;by_cases ay:q=b
   ·simp[ai.push,ai.set,ay]at aX;subst ay;simp[aw]at aX
   ·simp[ai.push,ai.set,aw,ay]at aX;exact⟨aw,ay,aX⟩
 have aot:∃cur,lG bj g e cur/\cur.size=cap*P.cellsOf e/\n<=cap/\cap<=maxLen/\cur.toList.take (n*P.cellsOf e)=xs/\m.base<=g:=by
  rcases jv.2 with⟨I,R⟩|⟨cf,uK,cur,I,R,aj,aH,bq,cq,de⟩
  ·simp at I
  ·simp at I;obtain⟨rfl,rfl⟩:=I;exact⟨cur,aj,cq,aH,bq,de,R⟩
 obtain⟨cur,aou,p7,XE,kR,DE,XB⟩:=aot;have dw:∀q x,q≠b->h.cell q=o x->m.cu q≠g:=by
  intro q x Aa aX;rcases a5 with⟨gF,_⟩|⟨gF,_⟩
  ·rw[gF];exact λe=>Aa (hw.inj _ _ _ _ aX ad e)
  ·have:=hw.below aX;omega
 have aov:∀O,m.eP g O=ag:=by
  intro O;rcases a5 with⟨gF,_⟩|⟨gF,_⟩
  ·rw[gF];exact hw.sep b es ad O
  ·rcases af:m.eP g O with _|v
   ·rfl
   ·have:=hw.tl af;omega
 obtain⟨bx,bL,gE⟩:=Pj;refine⟨_,aF,?_,?_,?_⟩
 ·refine⟨e6 hw.size uC,λq x aX=>?_,λq x aX=>?_,λq fk x kP aX pA he=>?_,λfH O v af=>?_,λq x aX O=>?_,λk ab=>?_,λk ab=>hw.p8 k ab,λk ab q x aX=>?_,λk ee ab jZ=>hw.qP k ee ab jZ,hw.cY.g9 hw.size λfH qc ba=>uJ fH qc (λe=>by have:=(hw.lt b es ad).2;omega),λD x ae=>?_⟩
  ·rcases yN q x aX with⟨rfl,rfl⟩|⟨aw,ay,aj⟩
   ·simp[ai.push,ai.set,XB]
   ·have:=hw.lt q x aj;simp[ai.push,ai.set,aw];omega
  ·rcases yN q x aX with⟨rfl,rfl⟩|⟨aw,ay,aj⟩
   ·refine⟨cur,by simpa using aou,by simp[p7],by simpa using bL,?_,λi af D ae=>?_⟩
    ·simp only[if_true];rw[xh,p7];exact Nat.mul_le_mul_right _ XE
    ·obtain⟨v,cI,b6⟩:=gE i af D ae;refine⟨v,?_,b6.ext aF⟩;simp only[if_true];rw[<-DE]at cI;have ba:=(fO.1 cI).1;simp at ba;rw[v1 (by omega)]at cI;rw[<-sv];exact cI
   ·obtain⟨cs,aW,bD,cl,eg,fV⟩:=hw.live q x aj;refine⟨cs,?_,by simpa[aw]using bD,by simpa[aw]using cl,by simpa[aw]using eg,λi af D ae=>?_⟩
    ·simp only[aw,if_false];exact(uJ _ aW.lt (λe=>ay (hw.inj _ _ _ _ aj ad e))).trans aW
    ·obtain⟨v,cI,b6⟩:=fV i af D ae;exact⟨v,by simpa[aw]using cI,b6.ext aF⟩
  ·rcases yN q x aX with⟨rfl,rfl⟩|⟨aw,ay,aj⟩<;>rcases yN fk kP pA with⟨rfl,rfl⟩|⟨f1,f2,f3⟩
   ·rfl
   ·simp[f1]at he;exact absurd he.symm (dw _ _ f2 f3)
   ·simp[aw]at he;exact absurd he (dw _ _ ay aj)
   ·simp[aw,f1]at he;exact hw.inj _ _ _ _ aj f3 he
  ·have qc:fH≠m.cu b:=λe=>by simp only at af;rw[e,hw.sep b es ad O]at af;cases af
   rw[World.cell?_of_block (w:=w) (uJ _ (hw.tl af) qc)];exact hw.eP fH O v af
  ·rcases yN q x aX with⟨rfl,rfl⟩|⟨aw,ay,aj⟩
   ·simp only[if_true];exact aov O
   ·simp only[aw,if_false];exact hw.sep q x aj O
  ·obtain⟨eG,bH⟩:=hw.rB k ab;refine⟨eG,bH.1,?_⟩;rcases bH.2 with I|⟨cf,uK,aow,ay,lq,Pl,r⟩
   ·exact .inl I
   ·refine .inr ⟨cf,uK,aow,ay,lq,?_,r⟩;simp at ay;obtain⟨rfl,rfl⟩:=ay;exact(uJ _ (hw.tm ab).2 (λe=>hw.oZ k ab b es ad e.symm)).trans Pl
  ·have aox:g≠m.jU k:=by
    rcases a5 with⟨gF,_⟩|⟨gF,_⟩
    ·rw[gF];exact hw.oZ k ab b es ad
    ·have:=(hw.tm ab).2;omega
   rcases yN q x aX with⟨rfl,rfl⟩|⟨aw,ay,aj⟩
   ·simpa using aox
   ·simp only[aw,if_false];exact hw.oZ k ab q x aj
  ·obtain⟨aP,a2,bl,cr,ej⟩:=hw.gN D x ae;have ez:=hw.xf ae;have J0:g≠D:=by
    rcases a5 with⟨gF,_⟩|⟨gF,_⟩
    ·rw[gF];exact bl b es ad
    ·omega
   refine⟨aP,(uJ D ez (λe=>bl b es ad e.symm)).trans a2,λq y aX=>?_,cr,ej⟩;rcases yN q y aX with⟨rfl,rfl⟩|⟨aw,ay,aj⟩
   ·simpa using J0
   ·simp only[aw,if_false];exact bl q y aj
 ·have:=b8.bw (P:=P) (m:={m with cu:=λq=>if q=h.n then g else m.cu q,hQ:=λq=>if q=h.n then e else m.hQ q,oX:=λq=>if q=h.n then cap*P.cellsOf e else m.oX q}) (h:=(h.set b ag).push dN) h.n 0 n e cap (by simp[ai.push,ai.set]) (by simp) (by simp) XE kR;simpa using this
 ·have lZ:∀q,q<m.base->bj.heap[q]? =w.heap[q]? :=λq aX=>uJ q (by have:=hw.size;omega) (by have:=(hw.lt b es ad).2;omega);rcases a5 with⟨_,kh⟩|⟨_,e5⟩
  ·exact⟨kh.os,kh.tape,kh.output,kh.size,lZ⟩
  ·exact⟨e5.os,e5.tape,e5.output,e5.size,lZ⟩
theorem aoy(hl:qR P)(hw:cp P m h w)(a6:ep P m h t a.tmps)(ty:a9)(x y:g7)(aK:O.op= .call {callee:=.builtin .append,args:= #[x,y],argTypes:=[ty,ty].toArray}){e:a9}(he:kN P ty=o e)(aB:(lp P e).isSome=J)(bh:Bool){v:F}(Z:eH bh e (bM t x) (bM t y) h=o (v,E)):er P m h a w O v E:=by
 have kT:=tn he;have ol:=yG hl he;obtain⟨z,aB⟩:=Option.isSome_iff_exists.1 aB;obtain⟨i,BC,af,xk,iI,aC,au,mC⟩:=f9 (m:=m) (h:=h) (w:=w) hl aB;have jn:i.size=P.cellsOf e:=by simp[Program.cellsOf,af]
 have vW:=hl.small e i (Xi aB) af;have jY:=h4 a6 x;have su:=h4 a6 y;obtain⟨J1,v2⟩:∃u,a.eval x=u:=⟨_,rfl⟩;obtain⟨aoz,uL⟩:∃u,a.eval y=u:=⟨_,rfl⟩;rw[v2]at jY;rw[uL]at su;by_cases J2:bM t y= .aJ
 ·rw[J2]at su Z;cases su;have ki:∀{A n c},J1= .slice A n c->n<=c->b8 P m h v (.slice A n c)->E=h->er P m h a w O v E:=by intro A n c I R aj aH;subst I;subst aH;exact er.pure hw (z' ty [ty] x y aK v2 uL (aop ty e [ty] kT (by rw[af];simp) rfl _ A n c R)) aj
  simp only[eH,uz]at Z;cases nT:bM t x<;>rw[nT]at Z jY<;>simp only at Z<;>try (cases Z;done)
  ·injection Z with Z;injection Z with I R;subst I;cases jY;exact ki rfl (b9 _) .aJ R.symm
  ·split at Z
   ·injection Z with Z;injection Z with I R;subst I;have sx:=jY;cases jY with
    |oY dT eR cap=>exact ki rfl (mI _) sx R.symm
    |b5 id dT es g fP cap ah hle fb uF kQ By=>exact ki rfl kQ sx R.symm
   ·cases Z
  ·split at Z
   ·injection Z with Z;injection Z with I R;subst I;have sx:=jY;cases jY with
    |bw b fP cj dT cap ad rF kQ px kR=>exact ki rfl px sx R.symm
   ·cases Z
 ·have iq:((js h e (bM t y)).bind λnew=>if new.length=0 then uz e (bM t x) h else kA bh e (bM t x) new h)=o (v,E):=by rw[<-Z];unfold eH;cases Pm:bM t y<;>first|rfl|exact absurd Pm J2
  clear Z;obtain⟨new,J3,Z⟩:=dX.1 iq;by_cases pw:new.length=0
  ·rw[if_pos pw]at Z;obtain⟨qO,n,c,news,rfl,rfl,hn,xe⟩:=Xy hw su J2 J3;rw[pw]at uL su;have ki:∀{A n eo},J1= .slice A n eo->n<=eo->b8 P m h v (.slice A n eo)->E=h->er P m h a w O v E:=by intro A n eo I R aj aH;subst I;subst aH;exact er.pure hw (z' ty [ty] x y aK v2 uL (aoq ty e [ty] kT (by rw[af];simp) rfl _ A n eo R qO c)) aj
   simp only[uz]at Z;cases nT:bM t x<;>rw[nT]at Z jY<;>simp only at Z<;>try (cases Z;done)
   ·injection Z with Z;injection Z with I R;subst I;cases jY;exact ki rfl (b9 _) .aJ R.symm
   ·split at Z
    ·injection Z with Z;injection Z with I R;subst I;have sx:=jY;cases jY with
     |oY dT eR cap=>exact ki rfl (mI _) sx R.symm
     |b5 id dT es g fP cap ah hle fb uF kQ By=>exact ki rfl kQ sx R.symm
    ·cases Z
   ·split at Z
    ·injection Z with Z;injection Z with I R;subst I;have sx:=jY;cases jY with
     |bw b fP cj dT cap ad rF kQ px kR=>exact ki rfl px sx R.symm
    ·cases Z
  rw[if_neg pw]at Z;unfold kA at Z;split at Z
  ·rename_i an;obtain⟨aW,bD,cl⟩:=an;obtain⟨qO,n,c,news,rfl,rfl,hn,xe⟩:=Xy hw su J2 J3;have F0:=hn.one ol cl;have Pn:∀k,k<=1000000->(k+new.length)*i.bytes<=140737488355328:=by intro k ab;have:(k+new.length)*i.bytes<=2000000*100000:=Nat.mul_le_mul (by omega) vW;omega
   have Po:∀k,k<=1000000->k+new.length<=maxLen:=by intro k ab;unfold maxLen;omega
   have aoA:bM t x= .aJ->er P m h a w O v E:=by
    intro nT;rw[nT]at Z jY;simp only at Z;cases jY;obtain⟨g,cap,bj,bx,bL,gE⟩:=Pf (P:=P) (w:=w) m.base ty O.type e i BC (P.cellsOf e) i.bytes kT af xk jn rfl (by rw[aC]) ol (.slice ag 0 0) 0 [] (World.ownsRow_nil _ _ _ _) qO new.length c (by omega) news hn.1 xe F0 (Po 0 (by omega)) (Pn 0 (by omega)) hw.size;simp only[ir,l3]at bx bL;rcases gE with⟨I,_⟩|⟨a5,e5⟩
    ·simp at I
    ·have iH:=z' (bj:=bj) ty [ty] x y aK v2 uL bx;obtain⟨bR,bQ⟩:=bL;rcases bQ with⟨I,_⟩|⟨cf,uK,cur,I,R,aj,aH,bq,cq,de⟩
     ·simp at I
     ·simp at I;obtain⟨rfl,rfl⟩:=I;have F1:cur.toList.take (new.length*P.cellsOf e)=news:=de;have z9:∀i (af:i<new.length) D (ae:D<new[i].length),∃v,cur[i*P.cellsOf e+D]? =o v/\b8 P m h new[i][D] v:=by intro i af D ae;obtain⟨v,cI,b6⟩:=hn.2.2 i af D ae;rw[<-F1]at cI;have ba:=(fO.1 cI).1;simp at ba;rw[v1 (by omega)]at cI;exact⟨v,by rw[<-sv];exact cI,b6⟩
      subst a5;cases bh
      ·simp only[mF,if_false,iF,kW]at Z;obtain⟨rfl,rfl⟩:=Z;obtain⟨bf,cF,cA,dK⟩:=hw.fresh bj e new cur cap e5 aj cq aH bq hn.2.1 z9;exact⟨bf,bj,_,.inl iH,cF,cA,dK,(oi.below e5).mono hw.size⟩
      ·simp only[if_true,iF,kW]at Z;obtain⟨rfl,rfl⟩:=Z;obtain⟨bf,cF,cA,dK,dR,hC⟩:=hw.push bj e new cur e5 aj (by rw[cq];exact Nat.mul_le_mul_right _ aH) hn.2.1 z9;have iJ:=b8.bw (P:=P) (m:=bf) (h:=h.push new) h.n 0 new.length e cap (by simp[ai.push]) dR (by rw[hC,cq,ir]) aH bq;rw[dK,Nat.zero_mul]at iJ;exact⟨bf,bj,_,.inl iH,cF,cA,iJ,(oi.below e5).mono hw.size⟩
   have aoB:∀k z es,bM t x= .b5 (o k) z es->er P m h a w O v E:=by
    intro k z es nT;rw[nT]at Z jY;simp only at Z;split at Z
    ·rename_i la;obtain⟨rfl,Pp,DN⟩:=la;injection Z with Z;injection Z with cS cf;subst cS;subst cf;cases jY with
     |b5 id dT es g fP cap ah hle fb uF kQ By=>
       obtain⟨ab,Ab,_,aoC⟩:=By k rfl;obtain⟨rfl,rfl,rfl⟩:=aoC Pp.symm;obtain⟨xs,xg⟩:=hw.rB k ab;rw[Ab,Pp]at xg;have aoD:o2 P m h (P.cellsOf z) es xs:=aor hw xg hle (λi af D ae=>⟨ah i D,by
        have:=hw.eP _ _ _ (fb i af D (by rw[<-hle _ (jl af)];exact ae));rwa [ir]at this,uF i af D ae⟩)
       obtain⟨g,uK,bj,bx,bL,gE⟩:=Pf (P:=P) (w:=w) m.base ty O.type z i BC (P.cellsOf z) i.bytes kT af xk jn rfl (by rw[aC]) ol _ es.length xs xg qO new.length c (by omega) news hn.1 xe F0 (Po _ DN) (Pn _ DN) hw.size;have iH:=z' (bj:=bj) ty [ty] x y aK v2 uL bx;obtain⟨bf,cF,cA,dK,dR⟩:=cp.grown hw ab (n:=es.length) (kV:=new.length) (xs:=xs) (news:=news) (g:=g) (cap:=uK) (bj:=bj) Pp.symm aW (by rw[Ab];exact xg) (by rw[Ab];exact ol) (by rw[Ab];exact bL) (by
        rcases gE with⟨bR,bQ,_⟩|q
        ·left;simp at bR;exact⟨bR.symm,bQ⟩
        ·exact .inr q) (es++new) (by rw[Ab];exact aoD.append hn) (by simp)
       rw[Ab]at dK;exact⟨bf,bj,_,.inl iH,cF,cA,dK,dR⟩
    ·cases Z
   have aoE:∀b fP cj z,bM t x= .bw b fP cj z->er P m h a w O v E:=by
    intro b fP cj z nT;rw[nT]at Z jY;simp only at Z;split at Z
    ·rename_i la;obtain⟨rfl,rfl,DN⟩:=la;obtain⟨es,ad,Z⟩:=dX.1 Z;split at Z
     ·rename_i pB;injection Z with Z;injection Z with cS cf;subst cS;subst cf;cases jY with
      |bw b fP cj dT cap lZ rF kQ px kR=>
        obtain⟨cs,cD,c9,jx,ts,nv⟩:=hw.live b es ad;rw[rF]at cD jx ts nv;have Pq:cs.size=cap*P.cellsOf z:=by rw[c9,<-kQ,ir]
        have BD:cj*P.cellsOf z<=es.length*P.cellsOf z:=Nat.mul_le_mul_right _ pB;have jv:w.ownsRow m.base z (P.cellsOf z) (.slice (o ⟨m.cu b,0,ag⟩) cj cap) cj (cs.toList.take (cj*P.cellsOf z)):=⟨by simp;omega,.inr ⟨m.cu b,cap,cs,rfl,(hw.lt b es ad).2,cD,px,kR,Pq,rfl⟩⟩;have Pr:o2 P m h (P.cellsOf z) (es.take cj) (cs.toList.take (cj*P.cellsOf z)):=by
         have I:o2 P m h (P.cellsOf z) es (cs.toList.take (es.length*P.cellsOf z)):=by
          refine⟨by simp;omega,jx,λi af D ae=>?_⟩;obtain⟨v,cI,b6⟩:=nv i af D ae;have:=p9 (s:=P.cellsOf z) af;have yK:D<P.cellsOf z:=by rw[<-jx _ (jl af)];exact ae
          exact⟨v,by rw[v1 (by omega),sv];exact cI,b6⟩
         have R:=I.take cj pB;rwa [List.take_take,Nat.min_eq_left BD]at R
        obtain⟨g,uK,bj,bx,bL,gE⟩:=Pf (P:=P) (w:=w) m.base ty O.type z i BC (P.cellsOf z) i.bytes kT af xk jn rfl (by rw[aC]) ol _ cj _ jv qO new.length c (by omega) news hn.1 xe F0 (Po _ DN) (Pn _ DN) hw.size;have Ps:a.eval x= .slice (o ⟨m.cu b,0,ag⟩) cj cap:=by rw[v2];simp
        have iH:=z' (bj:=bj) ty [ty] x y aK Ps uL bx;obtain⟨bf,cF,cA,dK,dR⟩:=cp.XD hw ad z rF (bj:=bj) (g:=g) (cap:=uK) bL (by
         rcases gE with⟨bR,bQ,_⟩|q
         ·left;simp at bR;exact⟨bR.symm,bQ⟩
         ·exact .inr q) (es.take cj++new) (Pr.append hn) (by simp;omega)
        exact⟨bf,bj,_,.inl iH,cF,cA,dK,dR⟩
     ·cases Z
    ·cases Z
   cases nT:bM t x with
   |aJ=>exact aoA nT
   |b5 id z es=>
     cases id with
     |some k=>exact aoB k z es nT
     |none=>rw[nT]at Z;cases Z
   |bw b fP cj z=>exact aoE b fP cj z nT
   |_=>rw[nT]at Z;cases Z
  ·cases Z
theorem XF(base:Nat)(t u ty e:a9)(i:TypeInfo)(a6:P.underlying t=o (.slice e))(bV:P.underlying u=o .string)(af:P.info? e=o i)(aB:i.zero=o (.int .u8 0))(uC:i.size=1)(vW:i.bytes=1)(v:b')(n:Nat)(xs:List b')(jv:w.ownsRow base e 1 v n xs)(s:ByteArray)(yL:s.size≠0)(yD:n+s.size<=maxLen)(Bu:n+s.size<=140737488355328)(Bv:base<=w.heap.size):∃g cap bj,(yE #[t,u] ty #[v,.string s]).run P w= .ok (.slice (o ⟨g,0,ag⟩) (n+s.size) cap) bj/\bj.ownsRow base e 1 (.slice (o ⟨g,0,ag⟩) (n+s.size) cap) (n+s.size) (xs++Lib.strCells s)/\((v.ownBlock=o g/\iR (λk=>k=g) w bj/\∃k,v= .slice (o ⟨g,0,ag⟩) n k)\/(g=w.heap.size/\oi w bj)):=by
 have aom:n+s.size<=9223372036854775807:=by simp only[maxLen]at yD;omega
 have om:xs.length=n:=by simpa using jv.1
 have hlen:(xs++Lib.strCells s).length=(n+s.size)*1:=by rw[fz,om,Lib.strCells_length,Nat.mul_one]
 have grown:∀(fF:Nat),fF<n+s.size->(w.drew.alloc (.cells (xs.toArray++(Lib.strCells s).toArray++Builtin.zeroCells (Value.int .u8 0).cells (grownCap w (n+s.size) fF e - (n+s.size))) e)).ownsRow base e 1 (.slice (o ⟨w.heap.size,0,ag⟩) (n+s.size) (grownCap w (n+s.size) fF e)) (n+s.size) (xs++Lib.strCells s)/\oi w (w.drew.alloc (.cells (xs.toArray++(Lib.strCells s).toArray++Builtin.zeroCells (Value.int .u8 0).cells (grownCap w (n+s.size) fF e - (n+s.size))) e)):=by
  intro fF aK;have vV:=grownCap_ge w (n+s.size) fF e;have BB:grownCap w (n+s.size) fF e<=maxLen:=grownCap_le_maxLen w (n+s.size) fF e yD;refine⟨⟨hlen,.inr ⟨w.heap.size,_,_,rfl,Bv,heap_alloc_new w.drew _,vV,BB,?_,?_⟩⟩,⟨rfl,rfl,rfl,by simp,λk ab _=>heap_alloc_old w.drew _ ab⟩⟩
  ·have Pt:(Value.int IntKind.u8 0).cells.size=1:=rfl;simp only[Array.size_append,List.size_toArray,size_zeroCells,Pt,om,Lib.strCells_length];omega
  ·simp only[Array.toList_append,kS];rw[<-kS,<-hlen];exact List.take_left
 rcases jv.2 with⟨rfl,rfl⟩|⟨g,cap,cur,rfl,Pg,a5,yC,BB,p7,DE⟩
 ·have aF:xs=[]:=List.eq_nil_of_length_eq_zero om;subst aF;have au:=run_append_nil_string (P:=P) w t u ty e i (.int .u8 0) a6 bV af aB s (by omega) (by omega) (by rw[vW];omega);have mZ:=grown 0 (by omega);simp only[ir,l3,Array.empty_append]at mZ ⊢;have aw:(s.data.map λb=>Value.int .u8 b.toNat)=(Lib.strCells s).toArray:=by apply Array.ext';simp[Lib.strCells]
  rw[aw]at au;exact⟨_,_,_,au,mZ.1,.inr ⟨rfl,mZ.2⟩⟩
 ·by_cases DM:n+s.size<=cap
  ·have aDt:cur.size=cap:=by simpa using p7
   have au:=Lib.run_append_room_string (P:=P) w t u ty e i a6 bV af uC g n cap cur a5 s DM (by omega);refine⟨_,_,_,au,⟨hlen,.inr ⟨g,cap,_,rfl,Pg,setRow_heap w g cur _ e _ a5,DM,BB,?_,?_⟩⟩,.inl ⟨rfl,⟨rfl,rfl,rfl,by simp,λk _ ab=>setRow_other w g k _ ab⟩,⟨_,rfl⟩⟩⟩
   ·simp only[List.size_toArray,fz,pv,List.length_drop,Array.length_toList,Lib.strCells_length];omega
   ·have O8:cur.toList.take n=xs:=by simpa using DE
    rw[O8,<-hlen];exact List.take_left
  ·have holds:∀D u,xs[D]? =o u->w.cell? ((⟨g,0,ag⟩:Addr).add D)=o u:=jv.cells (g:=g) rfl;have au:=Lib.run_append_grow_string (P:=P) w t u ty e i (.int .u8 0) a6 bV af aB ⟨g,0,ag⟩ n cap xs (by rw[uC];simpa using om) holds s (by omega) (by omega) (by rw[vW];exact growslice_fits (by omega) (by omega));have mZ:=grown cap (by omega);exact⟨_,_,_,au,mZ.1,.inr ⟨rfl,mZ.2⟩⟩
theorem aoF{e:a9}(h:FK P e=J):∃i,P.info? e=o i/\i.zero=o (.int .u8 0)/\i.size=1/\i.bytes=1/\P.cellsOf e=1:=by
 unfold FK at h;split at h
 ·rename_i i af;simp only[gv,beq_iff_eq]at h;obtain⟨⟨I,R⟩,aj⟩:=h;split at I
  ·rename_i n aB;have:n=0:=by simpa using I
   subst this;exact⟨i,af,aB,R,aj,by simp[Program.cellsOf,af,R]⟩
  ·cases I
 ·cases h
theorem XG(l:List UInt8):o2 P m h 1 (vR l) (Lib.strCells ⟨l.toArray⟩):=by
 refine⟨by simp[Lib.strCells],λr au=>?_,λi af D ae=>?_⟩
 ·obtain⟨c,_,rfl⟩:=nt.1 au;rfl
 ·have fb:i<l.length:=by simpa using af
  have e:(vR l)[i]=[.int .u8 l[i].toNat]:=by simp[vR]
  have tt:D=0:=by rw[e]at ae;simpa using ae
  subst tt;refine⟨.int .u8 l[i].toNat,by simp[Lib.strCells,fb],?_⟩;simp only[e,List.getElem_cons_zero];exact .int _ _
theorem aoG(h:p4 P ty=J):P.underlying ty=o .string:=by
 unfold p4 at h;split at h
 ·assumption
 ·cases h
theorem aoH(ty u e:a9)(tq:P.underlying ty=o (.slice e))(bV:P.underlying u=o .string){i:TypeInfo}(af:P.info? e=o i)(aC:i.size=1)(FZ:a9)(A:Option Addr)(n c:Nat)(yC:n<=c):(yE #[ty,u] FZ #[.slice A n c,.string ⟨#[]⟩]).run P w= .ok (.slice A n c) w:=by have bo:=Lib.run_firstCells_string (P:=P) w 1 ⟨#[]⟩;have dj:(Lib.strCells ⟨#[]⟩)=[]:=rfl;have aw:(⟨#[]⟩:ByteArray).size=0:=rfl;rw[dj,aw]at bo;cases A<;>simp[yE,kg tq,kg bV,sizeOf,typeInfo,af,aC,Builtin.lenOf,yC,bo,aw,storeCells]
theorem aoI(hw:cp P m h w)(a6:ep P m h t a.tmps)(ty Ac:a9)(x y:g7)(aK:O.op= .call {callee:=.builtin .append,args:= #[x,y],argTypes:=[ty,Ac].toArray}){e:a9}(he:kN P ty=o e)(bV:p4 P Ac=J)(hu:FK P e=J)(bh:Bool){v:F}(Z:FL bh e (bM t x) (bM t y) h=o (v,E)):er P m h a w O v E:=by
 have kT:=tn he;have DH:=aoG bV;obtain⟨i,af,aB,nr,pu,nR⟩:=aoF hu;have jY:=h4 a6 x;have su:=h4 a6 y;obtain⟨J1,v2⟩:∃u,a.eval x=u:=⟨_,rfl⟩;obtain⟨aoz,uL⟩:∃u,a.eval y=u:=⟨_,rfl⟩;rw[v2]at jY;rw[uL]at su;unfold FL at Z;split at Z
 ·rename_i l Pm;rw[Pm]at su;cases su;split at Z
  ·rename_i pw;obtain rfl:=sy.1 pw;have ki:∀{A n eo},J1= .slice A n eo->n<=eo->b8 P m h v (.slice A n eo)->E=h->er P m h a w O v E:=by intro A n eo I R aj aH;subst I;subst aH;exact er.pure hw (z' ty [Ac] x y aK v2 uL (aoH ty Ac e kT DH af nr _ A n eo R)) aj
   simp only[uz]at Z;cases nT:bM t x<;>rw[nT]at Z jY<;>simp only at Z<;>try (cases Z;done)
   ·injection Z with Z;injection Z with I R;subst I;cases jY;exact ki rfl (b9 _) .aJ R.symm
   ·split at Z
    ·injection Z with Z;injection Z with I R;subst I;have sx:=jY;cases jY with
     |oY dT eR cap=>exact ki rfl (mI _) sx R.symm
     |b5 id dT es g fP cap ah hle fb uF kQ By=>exact ki rfl kQ sx R.symm
    ·cases Z
   ·split at Z
    ·injection Z with Z;injection Z with I R;subst I;have sx:=jY;cases jY with
     |bw b fP cj dT cap ad rF kQ px kR=>exact ki rfl px sx R.symm
    ·cases Z
  ·rename_i pw;split at Z
   ·rename_i aDu;have fa:(⟨l.toArray⟩:ByteArray).size=l.length:=JR l;split at Z
    ·rename_i nT;rw[nT]at jY;cases jY;split at Z
     ·rename_i J4;injection Z with Z;injection Z with cS cf;subst cS;subst cf;obtain⟨g,cap,bj,bx,bL,gE⟩:=XF (P:=P) (w:=w) m.base ty Ac O.type e i kT DH af aB nr pu (.slice ag 0 0) 0 [] (World.ownsRow_nil _ _ _ _) ⟨l.toArray⟩ (by rw[fa];exact pw) (by rw[fa];unfold maxLen;omega) (by rw[fa];omega) hw.size;rw[fa]at bx bL;simp only[ir,l3]at bx bL;rcases gE with⟨bR,_⟩|⟨a5,e5⟩
      ·simp at bR
      ·have iH:=z' (bj:=bj) ty [Ac] x y aK v2 uL bx;obtain⟨bR,bQ⟩:=bL;rcases bQ with⟨I,_⟩|⟨cf,uK,cur,I,R,aj,aH,bq,cq,de⟩
       ·simp at I
       ·simp at I;obtain⟨rfl,rfl⟩:=I;have hn:=XG (P:=P) (m:=m) (h:=h) l;have z9:∀i (af:i<(vR l).length) D (ae:D<(vR l)[i].length),∃v,cur[i*P.cellsOf e+D]? =o v/\b8 P m h (vR l)[i][D] v:=by intro i af D ae;obtain⟨v,cI,b6⟩:=hn.2.2 i af D ae;rw[<-de]at cI;have ba:=(fO.1 cI).1;simp at ba;rw[v1 (by omega)]at cI;exact⟨v,by rw[nR,<-sv];exact cI,b6⟩
        subst a5;obtain⟨bf,cF,cA,dK,dR,hC⟩:=hw.push bj e (vR l) cur e5 aj (by rw[cq,nR];simp;omega) (by rw[nR];exact hn.2.1) z9;have iJ:=b8.bw (P:=P) (m:=bf) (h:=h.push (vR l)) h.n 0 l.length e cap (by simp[ai.push]) dR (by rw[hC,cq,ir,nR]) aH bq;rw[dK,Nat.zero_mul]at iJ;exact⟨bf,bj,_,.inl iH,cF,cA,iJ,(oi.below e5).mono hw.size⟩
     ·cases Z
    ·rename_i b fP cj z nT;rw[nT]at jY;split at Z
     ·rename_i la;obtain⟨rfl,rfl,DN⟩:=la;obtain⟨es,ad,Z⟩:=dX.1 Z;split at Z
      ·rename_i pB;injection Z with Z;injection Z with cS cf;subst cS;subst cf;cases jY with
       |bw b fP cj dT cap lZ rF kQ px kR=>
         obtain⟨cs,cD,c9,jx,ts,nv⟩:=hw.live b es ad;rw[rF,nR]at jx ts nv;rw[rF]at cD;have Pq:cs.size=cap*1:=by rw[c9,<-kQ,ir,nR]
         have jv:w.ownsRow m.base z 1 (.slice (o ⟨m.cu b,0,ag⟩) cj cap) cj (cs.toList.take (cj*1)):=⟨by simp;omega,.inr ⟨m.cu b,cap,cs,rfl,(hw.lt b es ad).2,cD,px,kR,Pq,rfl⟩⟩;have Pr:o2 P m h 1 (es.take cj) (cs.toList.take (cj*1)):=by
          have I:o2 P m h 1 es (cs.toList.take (es.length*1)):=by
           refine⟨by simp;omega,jx,λi af D ae=>?_⟩;obtain⟨v,cI,b6⟩:=nv i af D ae;have:=p9 (s:=1) af;have yK:D<1:=by rw[<-jx _ (jl af)];exact ae
           exact⟨v,by rw[v1 (by omega),sv];exact cI,b6⟩
          have R:=I.take cj pB;rwa [List.take_take,Nat.min_eq_left (by omega)]at R
         obtain⟨g,uK,bj,bx,bL,gE⟩:=XF (P:=P) (w:=w) m.base ty Ac O.type z i kT DH af aB nr pu _ cj _ jv ⟨l.toArray⟩ (by rw[fa];exact pw) (by rw[fa];unfold maxLen;omega) (by rw[fa];omega) hw.size;rw[fa]at bx bL;have Ps:a.eval x= .slice (o ⟨m.cu b,0,ag⟩) cj cap:=by rw[v2];simp
         have iH:=z' (bj:=bj) ty [Ac] x y aK Ps uL bx;obtain⟨bf,cF,cA,dK,dR⟩:=cp.XD hw ad z rF (bj:=bj) (g:=g) (cap:=uK) (by rw[nR];exact bL) (by
          rcases gE with⟨bR,bQ,_⟩|q
          ·left;simp at bR;exact⟨bR.symm,bQ⟩
          ·exact .inr q) (es.take cj++vR l) (by rw[nR];exact Pr.append (XG l)) (by simp;omega)
         exact⟨bf,bj,_,.inl iH,cF,cA,dK,dR⟩
      ·cases Z
     ·cases Z
    ·cases Z
   ·cases Z
 ·cases Z
end
open Go Go.RowKit
section
variable{P:c'}{m bf:ey}{h E:ai}{w bj:dO}{t:List F}{a:Act}{O:bm}
theorem aoJ(hl:qR P)(hw:cp P m h w)(a6:ep P m h t a.tmps){v:F}(he:kB P t O=o v):er P m h a w O v h:=by
 unfold kB at he;split at he
 ·rename_i x aK;injection he with I;subst I;exact Xb hw a6 x (.inl aK)
 ·rename_i x aK;injection he with I;subst I;exact Xb hw a6 x (.inr aK)
 ·rename_i c x y aK;split at he
  ·rename_i b ad;injection he with I;subst I;exact anR hw a6 c x y aK ad
  ·cases he
 ·rename_i ty parts aK;obtain⟨z,aB,he⟩:=dX.1 he;split at he
  ·rename_i pl iS;split at he
   ·rename_i oo;obtain⟨cs,p7,I⟩:=ed.1 he;subst I;exact Xt hl hw a6 ty parts aK aB (.inl ⟨pl,iS,by simpa using oo,p7⟩)
   ·cases he
  ·obtain⟨q,aX,he⟩:=dX.1 he;split at he
   ·cases he
   ·rename_i F2;obtain⟨cs,p7,I⟩:=ed.1 he;subst I;exact Xt hl hw a6 ty parts aK aB (.inr ⟨q.1,q.2,aX,F2,p7⟩)
 ·rename_i x aK;split at he<;>first|(cases he;done)|skip
  all_goals
   rename_i aF;injection he with I;subst I;exact anS hw a6 x aK aF rfl
 ·rename_i op ty x y uG aK;have aF:=h4 a6 x;have bH:=h4 a6 y;split at he
  ·rename_i ex yI;rw[ex]at aF;rw[yI]at bH;obtain⟨jw,ns⟩:∃u,a.eval x=u:=⟨_,rfl⟩;obtain⟨hD,l2⟩:∃u,a.eval y=u:=⟨_,rfl⟩;rw[ns]at aF;rw[l2]at bH;cases aF;cases bH;have key:∀c,y= .const c->iE P ty= .iface->∀b,(op= .eql/\b=J)\/(op= .neq/\b=U)->(f' a.eval O).run P w= .ok (.value (.bool b)) w:=by
    intro c aoK ab b iH;subst aoK;have bg:=ab;unfold iE at bg;split at bg<;>simp at bg;rename_i ms p';have heq:(Op.equal ty .nilIface .nilIface).run P w= .ok J w:=by
     have ak:∀d,(Op.equalIn (d+1) ty .nilIface .nilIface).run P w= .ok J w:=λd=>by simp[Op.equalIn,kg p']
     exact ak 9999
    have a5:(eqGuard op ty x (.const c) .nilIface .nilIface).run P w= .ok () w:=by rcases iH with⟨rfl,_⟩|⟨rfl,_⟩<;>cases x<;>rfl
    rcases iH with⟨rfl,rfl⟩|⟨rfl,rfl⟩
    ·have aw:binOp .eql ty .nilIface .nilIface=(do pure (.bool (<-Op.equal ty .nilIface .nilIface)):Sem b'):=rfl;simp only[f',aK,ns,l2,i',a5,i2,aw,heq,mD]
    ·have aw:binOp .neq ty .nilIface .nilIface=(do pure (.bool (!(<-Op.equal ty .nilIface .nilIface))):Sem b'):=rfl;simp only[f',aK,ns,l2,i',a5,i2,aw,heq,mD];rfl
   split at he
   ·rename_i c ab;injection he with I;subst I;exact er.pure hw (key _ rfl ab J (.inl ⟨rfl,rfl⟩)) (.bool _)
   ·rename_i c ab;injection he with I;subst I;exact er.pure hw (key _ rfl ab U (.inr ⟨rfl,rfl⟩)) (.bool _)
   ·cases he
  ·rename_i xs eG ex yI;obtain⟨aQ,XH,he⟩:=dX.1 he;split at he
   ·obtain⟨b,ad,I⟩:=ed.1 he;subst I;exact Xo hw a6 _ ty uG x y aK ex yI XH ad (.inl ⟨rfl,rfl⟩)
   ·obtain⟨b,ad,I⟩:=ed.1 he;subst I;exact Xo hw a6 _ ty uG x y aK ex yI XH ad (.inr ⟨rfl,rfl⟩)
   ·cases he
  ·rename_i aDv aDw;have au:=he;clear he;obtain⟨jw,ns⟩:∃u,a.eval x=u:=⟨_,rfl⟩;obtain⟨hD,l2⟩:∃u,a.eval y=u:=⟨_,rfl⟩;rw[ns]at aF;rw[l2]at bH;generalize bM t x=ex at*;generalize bM t y=yI at*;unfold eO at au;split at au
   ·rename_i k eR ee gl;cases aF;cases bH;obtain⟨u,bx,bL⟩:=an6 (P:=P) (m:=m) (h:=h) (w:=w) op ty k ee eR gl (iE P ty) au;exact er.pure hw (JS op ty uG x y aK ns l2 rfl bx) bL
   ·rename_i eR gl;cases aF;cases bH;obtain⟨u,bx,bL⟩:=an7 (P:=P) (m:=m) (h:=h) (w:=w) op ty eR gl (iE P ty) au;exact er.pure hw (JS op ty uG x y aK ns l2 rfl bx) bL
   ·split at au
    ·obtain⟨b,ad,au⟩:=ed.1 au;subst au;obtain⟨aw,ay,be⟩:=Xl (w:=w) ty ad aF bH;exact er.pure hw (JS _ ty uG x y aK ns l2 aw ay) (.bool _)
    ·obtain⟨b,ad,au⟩:=ed.1 au;subst au;obtain⟨aw,ay,be⟩:=Xl (w:=w) ty ad aF bH;exact er.pure hw (JS _ ty uG x y aK ns l2 aw be) (.bool _)
    ·cases au
 ·rename_i op ty x aK;have bV:=he;exact anT hw a6 op ty x aK bV
 ·rename_i src dst x aK;split at he
  ·cases he
  ·rename_i aA;have bV:=he;exact anU hw a6 src dst x aK (by cases aC:P.underlying src<;>simp_all) bV
 ·rename_i ty x aK;split at he
  ·cases he
  ·rename_i az;have uM:yv P ty=J:=by simpa using az
   split at he
   ·injection he with I;subst I;exact Xd hw a6 ty x aK uM
   ·split at he
    ·rename_i cs p7;injection he with I;subst I;rw[<-p7];exact Xd hw a6 ty x aK uM
    ·cases he
 ·rename_i f first captured aK
  split at he
  ·rename_i g;injection he with I;subst I;exact anV hw a6 g first captured aK
  ·cases he
 ·rename_i ty x iP af od aK;split at he
  ·cases he
  ·rename_i la;have bV:=he;simp only[o3,Bool.not_eq_true',not_or,Bool.not_eq_true,Bool.not_eq_false]at la;obtain⟨aW,bD⟩:=la;cases od with
   |some od=>simp at aW
   |none=>exact aog hl hw a6 ty x iP af aK bD bV
 ·rename_i s x f aK;obtain⟨q,aX,he⟩:=dX.1 he;split at he
  ·cases he
  ·rename_i F2;have bV:=he;exact anY hw a6 s x f aK aX F2 bV
 ·rename_i s x f aK;obtain⟨q,aX,he⟩:=dX.1 he;split at he
  ·rename_i cs p7;split at he
   ·cases he
   ·rename_i la;have bV:=he;exact anZ hw a6 s x f aK aX (λh=>la (.inl h)) (by intro aA;exact la (.inr (by simp[aA]))) p7 bV
  ·cases he
 ·rename_i ty x bJ aK;have bV:=he;exact an0 hl hw a6 ty x bJ aK bV
 ·rename_i ty x bJ aK;have bV:=he;exact an2 hw a6 ty x bJ aK bV
 ·rename_i x FV aS ok aK;split at he
  ·rename_i q a' aF;split at he
   ·rename_i an;obtain⟨aW,bD⟩:=an;subst bD;injection he with I;subst I;exact anX hw a6 x FV q ok aK aF aW
   ·cases he
  ·cases he
 ·rename_i x i aK;split at he
  ·rename_i bI aF;have bV:=he;exact anW hw a6 x i aK aF bV
  ·cases he
 ·rename_i args argTypes aK;have Pu:∀(l:List g7),args.toList=l->args=l.toArray:=λl am=>by rw[<-am]
  have Pv:∀(l:List a9),argTypes.toList=l->argTypes=l.toArray:=λl am=>by rw[<-am]
  split at he
  ·rename_i x ty rG aV tq;obtain rfl:=Pu _ aV;obtain rfl:=Pv _ tq;split at he
   ·rename_i bo;obtain⟨n,aA,I⟩:=ed.1 he;subst I;exact an4 hw a6 x ty rG aK bo aA
   ·cases he
  ·cases he
 ·rename_i args argTypes aK;split at he
  ·rename_i x y aV;obtain rfl:args=[x,y].toArray:=by rw[<-aV]
   exact Xk hw a6 U x y _ aK rfl rfl he
  ·cases he
 ·rename_i args argTypes aK;split at he
  ·rename_i x y aV;obtain rfl:args=[x,y].toArray:=by rw[<-aV]
   exact Xk hw a6 J x y _ aK rfl rfl he
  ·cases he
 ·cases he
theorem XI(hl:qR P)(hw:cp P m h w)(a6:ep P m h t a.tmps)(bh:a9->Bool){v:F}(he:gk P bh t h O=o (v,E)):er P m h a w O v E:=by
 unfold gk at he;split at he
 ·rename_i e aK;obtain⟨z,aB,he⟩:=ed.1 he;injection he with I R;subst I;subst R;split
  ·exact anI hl hw e aK aB
  ·exact anH hl hw e aK aB
 ·rename_i e x aK;split at he
  ·rename_i an;injection he with he;injection he with I R;subst I;subst R;split
   ·exact anK hw a6 e x aK an.1 an.2
   ·exact anJ hw a6 e x aK an.1 an.2
  ·cases he
 ·rename_i ty len parts aK;obtain⟨e,h6,he⟩:=dX.1 he;obtain⟨z,aB,he⟩:=dX.1 he;split at he
  ·rename_i an;obtain⟨es,kT,he⟩:=ed.1 he;have:=aok hl hw a6 ty len parts aK h6 aB kT an;split at he
   ·injection he with I R;subst I;subst R;exact this.1
   ·split at he
    ·injection he with I R;subst I;subst R;exact this.2.2
    ·injection he with I R;subst I;subst R;exact this.2.1
  ·cases he
 ·rename_i ty x aK;split at he
  ·cases he
  ·rename_i aA;obtain⟨u,bV,he⟩:=ed.1 he;injection he with I R;subst I;subst R;obtain⟨d,bg⟩:=Option.isSome_iff_exists.1 (by cases l2:P.underlying ty<;>simp_all:(P.underlying ty).isSome=J);obtain⟨i,af⟩:=Xe bg;exact anL hw a6 ty x aK bg (by rw[af];simp) bV
 ·rename_i ty x y aK;split at he
  ·cases he
  ·rename_i aA;obtain⟨R,bW,he⟩:=ed.1 he;injection he with aw ay;subst aw;subst ay;obtain⟨i,af,_⟩:=ss aA;exact anM hw a6 ty x y aK (by rw[af];simp) bW
 ·rename_i ty l c aK;split at he
  ·rename_i cF n cA kX am an;obtain⟨e,h6,he⟩:=dX.1 he;obtain⟨z,aB,he⟩:=dX.1 he;split at he
   ·rename_i la;obtain⟨aW,bD,cl⟩:=la;have kY:bM t c= .int cA n:=by rw[an,<-bD]
    injection he with he;injection he with I R;subst I;subst R;exact Fd hl hw a6 ty l c aK h6 aB am kY aW cl
   ·cases he
  ·cases he
 ·rename_i args argTypes aK;have Pu:∀(l:List g7),args.toList=l->args=l.toArray:=λl am=>by rw[<-am]
  have Pv:∀(l:List a9),argTypes.toList=l->argTypes=l.toArray:=λl am=>by rw[<-am]
  split at he
  ·rename_i x y ty vT aV tq;obtain rfl:=Pu _ aV;obtain rfl:=Pv _ tq;split at he
   ·rename_i Ab;subst Ab;obtain⟨e,h6,he⟩:=dX.1 he;split at he
    ·rename_i aB;exact aoy hl hw a6 ty x y aK h6 aB (bh ty) he
    ·cases he
   ·split at he
    ·rename_i bW;obtain⟨e,h6,he⟩:=dX.1 he;split at he
     ·rename_i hu;exact aoI hw a6 ty vT x y aK h6 bW hu (bh ty) he
     ·cases he
    ·cases he
  ·cases he
 ·obtain⟨u,bV,he⟩:=ed.1 he;injection he with I R;subst I;subst R;exact aoJ hl hw a6 bV
end
end Go.Proofs.YtkdbjfncchmmpaaGreat
